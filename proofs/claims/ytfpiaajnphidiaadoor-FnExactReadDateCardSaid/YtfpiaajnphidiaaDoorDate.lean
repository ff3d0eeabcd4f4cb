/- The calendar from 2000 to 2099: plain laws (a day is of one date alone) and the contracts of the program's and of the reference's functions on dates. -/
import Derived.Test.YtfpiaajnphidiaaDoorBase
namespace Go.Proofs.YtfpiaajnphidiaaDoor
open Go.ChangeShapes Go.WideShapes Go.ChangeAt Go.RowKit
set_option linter.unusedVariables false
/-! ### plain laws -/
def leap (y : Int) : Int := if y % 4 = 0 then 1 else 0
def cum (y m : Int) : Int := (367 * m - 362) / 12 - (if m ≤ 2 then 0 else 2 - leap y)
def mlen (y m : Int) : Int := cum y (m + 1) - cum y m
def dn (y m : Int) : Int := (y - 2000) * 365 + (y - 2000 + 3) / 4 + cum y m
theorem leap_01 (y : Int) : 0 ≤ leap y ∧ leap y ≤ 1 := by unfold leap; split <;> omega
theorem leap_t {y : Int} (h : y % 4 = 0) : leap y = 1 := by unfold leap; rw [if_pos h]
theorem leap_f {y : Int} (h : ¬ y % 4 = 0) : leap y = 0 := by unfold leap; rw [if_neg h]
theorem cum1 (y : Int) : cum y 1 = 0 := by unfold cum; simp
theorem cum13 (y : Int) : cum y 13 = 365 + leap y := by unfold cum; simp; omega
theorem mlen_bd (y m : Int) (h1 : 1 ≤ m) (h2 : m ≤ 12) : 28 ≤ mlen y m ∧ mlen y m ≤ 31 := by
  have := leap_01 y
  unfold mlen cum
  split <;> split <;> omega
theorem mlen_lit (y : Int) : mlen y 1 = 31 ∧ mlen y 2 = 28 + leap y ∧ mlen y 3 = 31 ∧ mlen y 4 = 30 ∧ mlen y 5 = 31 ∧ mlen y 6 = 30 ∧ mlen y 7 = 31 ∧ mlen y 8 = 31 ∧ mlen y 9 = 30 ∧ mlen y 10 = 31 ∧ mlen y 11 = 30 ∧ mlen y 12 = 31 := by
  unfold mlen cum
  simp
  omega
theorem cum_bd (y m : Int) (h1 : 1 ≤ m) (h2 : m ≤ 13) : 0 ≤ cum y m ∧ cum y m ≤ 365 + leap y := by
  have := leap_01 y
  unfold cum
  split <;> omega
theorem cum_mono (y m m' : Int) (h1 : 1 ≤ m) (h : m < m') (h2 : m' ≤ 13) : cum y m + mlen y m ≤ cum y m' := by
  have := leap_01 y
  unfold mlen cum
  split <;> split <;> (try split) <;> omega
theorem dn_year (y y' : Int) (h : y < y') : (y - 2000) * 365 + (y - 2000 + 3) / 4 + (365 + leap y) ≤ (y' - 2000) * 365 + (y' - 2000 + 3) / 4 := by
  unfold leap
  split <;> omega
theorem dn_next (y : Int) : dn y 13 = dn (y + 1) 1 := by
  have := cum13 y
  have := cum1 (y + 1)
  unfold dn
  rw [cum13, cum1]
  unfold leap
  split <;> omega
structure IsDate (day y m d : Int) : Prop where
  lo : 2000 ≤ y
  m1 : 1 ≤ m
  m2 : m ≤ 12
  d1 : 1 ≤ d
  d2 : d ≤ mlen y m
  eq : dn y m + d - 1 = day
theorem IsDate.later {day y m d y' m' d' : Int} (h : IsDate day y m d) (k : IsDate day y' m' d') : ¬ y < y' := by
  intro hy
  have a := dn_year y y' hy
  have b := cum_mono y m 13 h.m1 (by have := h.m2; omega) (by omega)
  have c := cum13 y
  have e := (cum_bd y' m' k.m1 (by have := k.m2; omega)).1
  have h1 := h.eq
  have h2 := h.d2
  have k1 := k.eq
  have k2 := k.d1
  unfold dn at h1 k1
  omega
theorem IsDate.uniq {day y m d y' m' d' : Int} (h : IsDate day y m d) (k : IsDate day y' m' d') : y = y' ∧ m = m' ∧ d = d' := by
  have hy : y = y' := by
    have := h.later k
    have := k.later h
    omega
  subst hy
  have h1 := h.eq
  have h2 := h.d2
  have h3 := h.d1
  have k1 := k.eq
  have k2 := k.d2
  have k3 := k.d1
  unfold dn at h1 k1
  have hm : m = m' := by
    rcases Int.lt_trichotomy m m' with c | c | c
    · have := cum_mono y m m' h.m1 c (by have := k.m2; omega)
      omega
    · exact c
    · have := cum_mono y m' m k.m1 c (by have := h.m2; omega)
      omega
  subst hm
  exact ⟨rfl, rfl, by omega⟩
/-! ### the one date of a day -/
theorem dn13 (y : Int) : dn y 13 = dn y 1 + (365 + leap y) := by unfold dn; rw [cum13, cum1]; omega
theorem dn_y (y : Int) : dn (y + 1) 1 = dn y 1 + (365 + leap y) := by rw [← dn_next, dn13]
theorem dn_m (y m : Int) : dn y (m + 1) = dn y m + mlen y m := by unfold dn mlen; omega
theorem dn_4 (q : Int) : dn (4 * q + 2000) 1 = 1461 * q := by unfold dn; rw [cum1]; omega
theorem dn_2000 : dn 2000 1 = 0 := by unfold dn; rw [cum1]; omega
theorem dn_cum (y m : Int) : dn y m = dn y 1 + cum y m := by unfold dn; rw [cum1]; omega
theorem dn_le (y : Int) (h : dn y 1 ≤ 36524) : y ≤ 2099 := by unfold dn at h; rw [cum1] at h; omega
theorem dn_lo (y : Int) (h : 2000 ≤ y) : 0 ≤ dn y 1 := by unfold dn; rw [cum1]; omega
noncomputable def dY (day : Int) : Int := by classical exact if h : ∃ p : Int × Int × Int, IsDate day p.1 p.2.1 p.2.2 then h.choose.1 else 0
noncomputable def dM (day : Int) : Int := by classical exact if h : ∃ p : Int × Int × Int, IsDate day p.1 p.2.1 p.2.2 then h.choose.2.1 else 0
noncomputable def dD (day : Int) : Int := by classical exact if h : ∃ p : Int × Int × Int, IsDate day p.1 p.2.1 p.2.2 then h.choose.2.2 else 0
theorem d_eq {day y m d : Int} (h : IsDate day y m d) : dY day = y ∧ dM day = m ∧ dD day = d := by
  have hh : ∃ p : Int × Int × Int, IsDate day p.1 p.2.1 p.2.2 := ⟨(y, m, d), h⟩
  have e1 : dY day = hh.choose.1 := by unfold dY; rw [dif_pos hh]
  have e2 : dM day = hh.choose.2.1 := by unfold dM; rw [dif_pos hh]
  have e3 : dD day = hh.choose.2.2 := by unfold dD; rw [dif_pos hh]
  rw [e1, e2, e3]
  exact hh.choose_spec.uniq h
theorem mlit1 (y : Int) : mlen y 1 = 31 := by have := mlen_lit y; omega
theorem mlit2t {y : Int} (h : y % 4 = 0) : mlen y 2 = 29 := by have := (mlen_lit y).2.1; rw [leap_t h] at this; omega
theorem mlit2f {y : Int} (h : ¬ y % 4 = 0) : mlen y 2 = 28 := by have := (mlen_lit y).2.1; rw [leap_f h] at this; omega
theorem mlit3 (y : Int) : mlen y 3 = 31 := by have := mlen_lit y; omega
theorem mlit4 (y : Int) : mlen y 4 = 30 := by have := mlen_lit y; omega
theorem mlit5 (y : Int) : mlen y 5 = 31 := by have := mlen_lit y; omega
theorem mlit6 (y : Int) : mlen y 6 = 30 := by have := mlen_lit y; omega
theorem mlit7 (y : Int) : mlen y 7 = 31 := by have := mlen_lit y; omega
theorem mlit8 (y : Int) : mlen y 8 = 31 := by have := mlen_lit y; omega
theorem mlit9 (y : Int) : mlen y 9 = 30 := by have := mlen_lit y; omega
theorem mlit10 (y : Int) : mlen y 10 = 31 := by have := mlen_lit y; omega
theorem mlit11 (y : Int) : mlen y 11 = 30 := by have := mlen_lit y; omega
theorem mlit12 (y : Int) : mlen y 12 = 31 := by have := mlen_lit y; omega
theorem m_parts {m : Int} (h1 : 1 ≤ m) (h2 : m ≤ 12) : m = 1 ∨ m = 2 ∨ m = 3 ∨ m = 4 ∨ m = 5 ∨ m = 6 ∨ m = 7 ∨ m = 8 ∨ m = 9 ∨ m = 10 ∨ m = 11 ∨ m = 12 := by omega
theorem idx13 (cs : Array Value) (i : Int) (w : World) (hc : cs.size = 13) (h0 : 0 ≤ i) (h1 : i < 13) :
    (Instr.index 65 (.agg cs) (.int .i64 i)).run Tryd.prog w = .ok (cs.getD i.toNat undef) w :=
  index_arr Tryd.underlying65 (by kernel_rfl) (by kernel_rfl) cs i w hc h0 h1
section
attribute [local go_sem] idx13
set_option maxHeartbeats 2000000 in
theorem daysIn_any (y m : Int) (w : World) (hy : 0 ≤ y) (hy' : y ≤ 1000000) (h1 : 1 ≤ m) (h2 : m ≤ 12) : Calls Tryd.prog 43 #[.int .i64 y, .int .i64 m] w fun e w' => e = .returned (.int .i64 (mlen y m)) ∧ w = w' := by
  rcases m_parts h1 h2 with rfl | rfl | rfl | rfl | rfl | rfl | rfl | rfl | rfl | rfl | rfl | rfl
  · have F := Lib.hid (mlit1 y)
    go_enter Tryd.func43, Tryd.ntmps43
    go_wp2
    all_goals
      go_ret
      exact ⟨(ret_int F.out).symm, rfl⟩
  · by_cases hl : y % 4 = 0
    · have F := Lib.hid (mlit2t hl)
      have hl' : (y % 4 == 0) = true := beq_iff_eq.2 hl
      clear hl
      go_enter Tryd.func43, Tryd.ntmps43
      go_wp2
      go_ret
      exact ⟨(ret_int F.out).symm, rfl⟩
    · have F := Lib.hid (mlit2f hl)
      have hl' : (y % 4 == 0) = false := beq_eq_false_iff_ne.2 hl
      clear hl
      go_enter Tryd.func43, Tryd.ntmps43
      go_wp2
      go_ret
      exact ⟨(ret_int F.out).symm, rfl⟩
  · have F := Lib.hid (mlit3 y)
    go_enter Tryd.func43, Tryd.ntmps43
    go_wp2
    all_goals
      go_ret
      exact ⟨(ret_int F.out).symm, rfl⟩
  · have F := Lib.hid (mlit4 y)
    go_enter Tryd.func43, Tryd.ntmps43
    go_wp2
    all_goals
      go_ret
      exact ⟨(ret_int F.out).symm, rfl⟩
  · have F := Lib.hid (mlit5 y)
    go_enter Tryd.func43, Tryd.ntmps43
    go_wp2
    all_goals
      go_ret
      exact ⟨(ret_int F.out).symm, rfl⟩
  · have F := Lib.hid (mlit6 y)
    go_enter Tryd.func43, Tryd.ntmps43
    go_wp2
    all_goals
      go_ret
      exact ⟨(ret_int F.out).symm, rfl⟩
  · have F := Lib.hid (mlit7 y)
    go_enter Tryd.func43, Tryd.ntmps43
    go_wp2
    all_goals
      go_ret
      exact ⟨(ret_int F.out).symm, rfl⟩
  · have F := Lib.hid (mlit8 y)
    go_enter Tryd.func43, Tryd.ntmps43
    go_wp2
    all_goals
      go_ret
      exact ⟨(ret_int F.out).symm, rfl⟩
  · have F := Lib.hid (mlit9 y)
    go_enter Tryd.func43, Tryd.ntmps43
    go_wp2
    all_goals
      go_ret
      exact ⟨(ret_int F.out).symm, rfl⟩
  · have F := Lib.hid (mlit10 y)
    go_enter Tryd.func43, Tryd.ntmps43
    go_wp2
    all_goals
      go_ret
      exact ⟨(ret_int F.out).symm, rfl⟩
  · have F := Lib.hid (mlit11 y)
    go_enter Tryd.func43, Tryd.ntmps43
    go_wp2
    all_goals
      go_ret
      exact ⟨(ret_int F.out).symm, rfl⟩
  · have F := Lib.hid (mlit12 y)
    go_enter Tryd.func43, Tryd.ntmps43
    go_wp2
    all_goals
      go_ret
      exact ⟨(ret_int F.out).symm, rfl⟩
theorem daysIn_year (y : Int) (w : World) (hy : 0 ≤ y) (hy' : y ≤ 1000000) : Calls Tryd.prog 43 #[.int .i64 y, .int .i64 0] w fun e w' => e = .returned (.int .i64 (365 + leap y)) ∧ w = w' := by
  by_cases hl : y % 4 = 0
  · have F : Hid (365 + leap y = 366) := by show _ = _; rw [leap_t hl]; rfl
    have hl' : (y % 4 == 0) = true := beq_iff_eq.2 hl
    clear hl
    go_enter Tryd.func43, Tryd.ntmps43
    go_wp2
    go_ret
    exact ⟨(ret_int F.out).symm, rfl⟩
  · have F : Hid (365 + leap y = 365) := by show _ = _; rw [leap_f hl]; rfl
    have hl' : (y % 4 == 0) = false := beq_eq_false_iff_ne.2 hl
    clear hl
    go_enter Tryd.func43, Tryd.ntmps43
    go_wp2
    go_ret
    exact ⟨(ret_int F.out).symm, rfl⟩
end
set_option maxHeartbeats 2000000 in
theorem l02Length_any (y m : Int) (w : World) (hy : 0 ≤ y) (hy' : y ≤ 1000000) (h1 : 1 ≤ m) (h2 : m ≤ 12) : Calls Tryd.prog 53 #[.int .i64 y, .int .i64 m] w fun e w' => e = .returned (.int .i64 (mlen y m)) ∧ Below w.heap.size w w' := by
  rcases m_parts h1 h2 with rfl | rfl | rfl | rfl | rfl | rfl | rfl | rfl | rfl | rfl | rfl | rfl
  · have F := Lib.hid (mlit1 y)
    go_enter Tryd.func53, Tryd.ntmps53
    go_wp2
    all_goals
      go_ret
      exact ⟨(ret_int F.out).symm, by repeat (first | exact Below.refl _ _ | apply bl_alloc)⟩
  · by_cases hl : y % 4 = 0
    · have F := Lib.hid (mlit2t hl)
      have hl' : (y % 4 == 0) = true := beq_iff_eq.2 hl
      clear hl
      go_enter Tryd.func53, Tryd.ntmps53
      go_wp2
      go_ret
      exact ⟨(ret_int F.out).symm, by repeat (first | exact Below.refl _ _ | apply bl_alloc)⟩
    · have F := Lib.hid (mlit2f hl)
      have hl' : (y % 4 == 0) = false := beq_eq_false_iff_ne.2 hl
      clear hl
      go_enter Tryd.func53, Tryd.ntmps53
      go_wp2
      go_ret
      exact ⟨(ret_int F.out).symm, by repeat (first | exact Below.refl _ _ | apply bl_alloc)⟩
  · have F := Lib.hid (mlit3 y)
    go_enter Tryd.func53, Tryd.ntmps53
    go_wp2
    all_goals
      go_ret
      exact ⟨(ret_int F.out).symm, by repeat (first | exact Below.refl _ _ | apply bl_alloc)⟩
  · have F := Lib.hid (mlit4 y)
    go_enter Tryd.func53, Tryd.ntmps53
    go_wp2
    all_goals
      go_ret
      exact ⟨(ret_int F.out).symm, by repeat (first | exact Below.refl _ _ | apply bl_alloc)⟩
  · have F := Lib.hid (mlit5 y)
    go_enter Tryd.func53, Tryd.ntmps53
    go_wp2
    all_goals
      go_ret
      exact ⟨(ret_int F.out).symm, by repeat (first | exact Below.refl _ _ | apply bl_alloc)⟩
  · have F := Lib.hid (mlit6 y)
    go_enter Tryd.func53, Tryd.ntmps53
    go_wp2
    all_goals
      go_ret
      exact ⟨(ret_int F.out).symm, by repeat (first | exact Below.refl _ _ | apply bl_alloc)⟩
  · have F := Lib.hid (mlit7 y)
    go_enter Tryd.func53, Tryd.ntmps53
    go_wp2
    all_goals
      go_ret
      exact ⟨(ret_int F.out).symm, by repeat (first | exact Below.refl _ _ | apply bl_alloc)⟩
  · have F := Lib.hid (mlit8 y)
    go_enter Tryd.func53, Tryd.ntmps53
    go_wp2
    all_goals
      go_ret
      exact ⟨(ret_int F.out).symm, by repeat (first | exact Below.refl _ _ | apply bl_alloc)⟩
  · have F := Lib.hid (mlit9 y)
    go_enter Tryd.func53, Tryd.ntmps53
    go_wp2
    all_goals
      go_ret
      exact ⟨(ret_int F.out).symm, by repeat (first | exact Below.refl _ _ | apply bl_alloc)⟩
  · have F := Lib.hid (mlit10 y)
    go_enter Tryd.func53, Tryd.ntmps53
    go_wp2
    all_goals
      go_ret
      exact ⟨(ret_int F.out).symm, by repeat (first | exact Below.refl _ _ | apply bl_alloc)⟩
  · have F := Lib.hid (mlit11 y)
    go_enter Tryd.func53, Tryd.ntmps53
    go_wp2
    all_goals
      go_ret
      exact ⟨(ret_int F.out).symm, by repeat (first | exact Below.refl _ _ | apply bl_alloc)⟩
  · have F := Lib.hid (mlit12 y)
    go_enter Tryd.func53, Tryd.ntmps53
    go_wp2
    all_goals
      go_ret
      exact ⟨(ret_int F.out).symm, by repeat (first | exact Below.refl _ _ | apply bl_alloc)⟩
end Go.Proofs.YtfpiaajnphidiaaDoor
