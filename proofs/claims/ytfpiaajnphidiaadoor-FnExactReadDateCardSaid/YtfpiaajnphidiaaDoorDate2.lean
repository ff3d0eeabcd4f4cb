/- The contracts of the program's and of the reference's DateOf and DayNumber, over the calendar's plain laws. -/
import Derived.Test.YtfpiaajnphidiaaDoorDate
namespace Go.Proofs.YtfpiaajnphidiaaDoor
open Go.ChangeShapes Go.WideShapes Go.ChangeAt Go.RowKit
set_option linter.unusedVariables false
theorem results_tmp4 {fn : Func} {t u v x : Tmp} (h : fn.results = #[.tmp t, .tmp u, .tmp v, .tmp x]) (tmps : Array Value) (P : Program) (w : World) :
    (results fn tmps).run P w = .ok (.tuple #[tmps.getD t undef, tmps.getD u undef, tmps.getD v undef, tmps.getD x undef]) w := by simp [results, h]
theorem ret4 {a b c d a' b' c' d' : Int} (h : a = a') (k : b = b') (l : c = c') (m : d = d') : Ending.returned (.tuple #[.int .i64 a, .int .i64 b, .int .i64 c, .int .i64 d]) = .returned (.tuple #[.int .i64 a', .int .i64 b', .int .i64 c', .int .i64 d']) := by rw [h, k, l, m]
theorem ret3 {a b c a' b' c' : Int} (h : a = a') (k : b = b') (l : c = c') : Ending.returned (.tuple #[.int .i64 a, .int .i64 b, .int .i64 c]) = .returned (.tuple #[.int .i64 a', .int .i64 b', .int .i64 c']) := by rw [h, k, l]
theorem dayValid_any (n : Int) (w : World) : Calls Tryd.prog 42 #[.int .i64 n] w fun e w' => e = .returned (.bool (inB n 0 36524)) ∧ w = w' := by
  go_enter Tryd.func42, Tryd.ntmps42
  go_wp2_with (go_at_call 25; refine (within_any _ _ _ _).mono ?_; rintro e w' ⟨rfl, rfl⟩)
  go_ret
  exact ⟨rfl, rfl⟩
theorem l02Day_any (n : Int) (w : World) : Calls Tryd.prog 27 #[.int .i64 n] w fun e w' => e = .returned (.bool (inB n 0 36524)) ∧ w = w' := by
  go_enter Tryd.func27, Tryd.ntmps27
  go_wp2_with (go_at_call 38; refine (l00In_any _ _ _ _).mono ?_; rintro e w' ⟨rfl, rfl⟩)
  go_ret
  exact ⟨rfl, rfl⟩
theorem implDate_no (day : Int) (w : World) (h : inB day 0 36524 = false) : Calls Tryd.prog 29 #[.int .i64 day] w fun e w' => e = .returned (.tuple #[.int .i64 0, .int .i64 0, .int .i64 0, .int .i64 2]) ∧ w = w' := by
  go_enter Tryd.func29, Tryd.ntmps29
  go_wp2_with (go_at_call 42; refine (dayValid_any _ _).mono ?_; rintro e w' ⟨rfl, rfl⟩)
  refine bodyPost_ret (results_tmp4 rfl _ _ _) rfl ?_
  exact ⟨rfl, rfl⟩
theorem implDate_yes (day : Int) (w : World) (h : inB day 0 36524 = true) : Calls Tryd.prog 29 #[.int .i64 day] w fun e w' => e = .returned (.tuple #[.int .i64 (dY day), .int .i64 (dM day), .int .i64 (dD day), .int .i64 0]) ∧ w = w' := by
  obtain ⟨g0, g1⟩ := inB_yes h
  go_enter Tryd.func29, Tryd.ntmps29
  go_wp2_with (go_at_call 42; refine (dayValid_any _ _).mono ?_; rintro e w' ⟨rfl, rfl⟩)
  clear h
  go_loop [6, 7] (fun a b => ∃ y r : Int, 2000 ≤ y ∧ 0 ≤ r ∧ a = .int .i64 y ∧ b = .int .i64 r ∧ dn y 1 + r = day) (fun _ b => (intOf b).toNat)
  case atStart => exact ⟨_, _, by omega, by omega, rfl, rfl, by have := dn_4 (day / 1461); rw [show 2000 + day / 1461 * 4 = 4 * (day / 1461) + 2000 from by omega, this]; omega⟩
  case round =>
    obtain ⟨y, r, hy, hr, rfl, rfl, he⟩ := hrel
    have hy2 : y ≤ 2099 := dn_le y (by omega)
    have hd := dn_lo y hy
    obtain ⟨l1, l2⟩ := leap_01 y
    have HE := Lib.hid he
    have hr2 : r ≤ 36524 := by omega
    clear he hd
    by_cases hc : 365 + leap y ≤ r
    · go_wp2_with (go_at_call 43; refine (daysIn_year _ _ (by omega) (by omega)).mono ?_; rintro e w' ⟨rfl, rfl⟩)
      go_round
      case rel => exact ⟨_, _, by omega, by omega, rfl, rfl, by rw [dn_y]; have := HE.out; omega⟩
      case measure => simp [intOf]; omega
    · go_wp2_with (go_at_call 43; refine (daysIn_year _ _ (by omega) (by omega)).mono ?_; rintro e w' ⟨rfl, rfl⟩)
      clear hr2
      go_loop [7, 8] (fun b c => ∃ m r : Int, 1 ≤ m ∧ m ≤ 12 ∧ 0 ≤ r ∧ c = .int .i64 m ∧ b = .int .i64 r ∧ dn y m + r = day ∧ r + cum y m < 365 + leap y) (fun b _ => (intOf b).toNat)
      case atStart => exact ⟨1, _, by omega, by omega, hr, rfl, rfl, HE.out, by rw [cum1]; omega⟩
      case round =>
        obtain ⟨m, r, hm1, hm2, hr, rfl, rfl, he, hcu⟩ := hrel
        obtain ⟨k1, k2⟩ := mlen_bd y m hm1 hm2
        have hcb := (cum_bd y m hm1 (by omega)).1
        have HE := Lib.hid he
        have HC := Lib.hid hcu
        have hr2 : r ≤ 366 := by omega
        clear he hcu
        by_cases hc2 : mlen y m ≤ r
        · have hm3 : m < 12 := by
            have := cum13 y
            have := HC.out
            rcases Int.lt_or_lt_of_ne (show m ≠ 12 from fun e => by subst e; unfold mlen at hc2; simp only [show (12 : Int) + 1 = 13 from rfl] at hc2; omega) with a | a
            · exact a
            · omega
          go_wp2_with (go_at_call 43; refine (daysIn_any _ _ _ (by omega) (by omega) (by omega) (by omega)).mono ?_; rintro e w' ⟨rfl, rfl⟩)
          go_round
          case rel => exact ⟨m + 1, r - mlen y m, by omega, by omega, by omega, rfl, rfl, by rw [dn_m]; have := HE.out; omega, by have := HC.out; unfold mlen; omega⟩
          case measure => simp [intOf]; omega
        · go_wp2_with (go_at_call 43; refine (daysIn_any _ _ _ (by omega) (by omega) (by omega) (by omega)).mono ?_; rintro e w' ⟨rfl, rfl⟩)
          have D : IsDate day y m (r + 1) := ⟨hy, hm1, hm2, by omega, by omega, by have := HE.out; omega⟩
          obtain ⟨e1, e2, e3⟩ := d_eq D
          refine bodyPost_ret (results_tmp4 rfl _ _ _) rfl ?_
          exact ⟨(ret4 e1 e2 e3 rfl).symm, rfl⟩
theorem l02Date_any (day : Int) (w : World) (g0 : 0 ≤ day) (g1 : day ≤ 36524) : Calls Tryd.prog 40 #[.int .i64 day] w fun e w' => e = .returned (.tuple #[.int .i64 (dY day), .int .i64 (dM day), .int .i64 (dD day)]) ∧ Below w.heap.size w w' := by
  go_enter Tryd.func40, Tryd.ntmps40
  go_wp2_with fail
  go_loopw [0, 5, 6] (fun a b c wr => ∃ y m r : Int, 2000 ≤ y ∧ 1 ≤ m ∧ m ≤ 12 ∧ 0 ≤ r ∧ a = .int .i64 r ∧ b = .int .i64 y ∧ c = .int .i64 m ∧ dn y m + r = day ∧ Below w.heap.size w wr) (fun a _ _ _ => (intOf a).toNat)
  case atStart => exact ⟨2000, 1, day, by omega, by omega, by omega, g0, rfl, rfl, rfl, by rw [dn_2000]; omega, Below.refl _ _⟩
  case round =>
    obtain ⟨y, m, r, hy, hm1, hm2, hr, rfl, rfl, rfl, he, hb⟩ := hrel
    obtain ⟨k1, k2⟩ := mlen_bd y m hm1 hm2
    have hcb := (cum_bd y m hm1 (by omega)).1
    have hdc := dn_cum y m
    have hy2 : y ≤ 2099 := dn_le y (by omega)
    have hd := dn_lo y hy
    have hr2 : r ≤ 36524 := by omega
    have HE := Lib.hid he
    clear he hdc hd hcb
    by_cases hc : mlen y m ≤ r
    · by_cases hm : m < 12
      · go_wp2_with fail
        refine (l02Length_any _ _ _ (by omega) (by omega) (by omega) (by omega)).mono ?_
        rintro e w1 ⟨rfl, hb1⟩
        go_wp2_with fail
        refine (l02Length_any _ _ _ (by omega) (by omega) (by omega) (by omega)).mono ?_
        rintro e w2 ⟨rfl, hb2⟩
        go_wp2_with fail
        go_roundw
        case rel => exact ⟨y, m + 1, r - mlen y m, by omega, by omega, by omega, by omega, rfl, rfl, rfl, by rw [dn_m]; have := HE.out; omega, bl_trans (bl_trans hb hb1) hb2⟩
        case measure => simp [intOf]; omega
      · obtain rfl : m = 12 := by omega
        go_wp2_with fail
        refine (l02Length_any _ _ _ (by omega) (by omega) (by omega) (by omega)).mono ?_
        rintro e w1 ⟨rfl, hb1⟩
        go_wp2_with fail
        refine (l02Length_any _ _ _ (by omega) (by omega) (by omega) (by omega)).mono ?_
        rintro e w2 ⟨rfl, hb2⟩
        go_wp2_with fail
        go_roundw
        case rel => exact ⟨y + 1, 1, r - mlen y 12, by omega, by omega, by omega, by omega, rfl, rfl, rfl, by rw [← dn_next, show (13 : Int) = 12 + 1 from rfl, dn_m]; have := HE.out; omega, bl_trans (bl_trans hb hb1) hb2⟩
        case measure => simp [intOf]; omega
    · go_wp2_with fail
      refine (l02Length_any _ _ _ (by omega) (by omega) (by omega) (by omega)).mono ?_
      rintro e w1 ⟨rfl, hb1⟩
      go_wp2_with fail
      have D : IsDate day y m (r + 1) := ⟨hy, hm1, hm2, by omega, by omega, by have := HE.out; omega⟩
      obtain ⟨e1, e2, e3⟩ := d_eq D
      go_ret3
      exact ⟨(ret3 e1 e2 e3).symm, bl_trans hb hb1⟩
end Go.Proofs.YtfpiaajnphidiaaDoor
