/- The contracts of the program's and of the reference's DayNumber. -/
import Derived.Test.YtfpiaajnphidiaaDoorDate
namespace Go.Proofs.YtfpiaajnphidiaaDoor
open Go.ChangeShapes Go.WideShapes Go.ChangeAt Go.RowKit
set_option linter.unusedVariables false
theorem ret2 {a b c d : Int} (h : a = b) (k : c = d) : Ending.returned (.tuple #[.int .i64 a, .int .i64 c]) = .returned (.tuple #[.int .i64 b, .int .i64 d]) := by rw [h, k]
theorem ret2b {a b : Int} {c d : Bool} (h : a = b) (k : c = d) : Ending.returned (.tuple #[.int .i64 a, .bool c]) = .returned (.tuple #[.int .i64 b, .bool d]) := by rw [h, k]
def okDay (y m d : Int) : Bool := inB y 2000 2099 && (inB m 1 12 && inB d 1 (mlen y m))
def numDay (y m d : Int) : Int := if okDay y m d then dn y m + d - 1 else 0
def codeDay (y m d : Int) : Int := if okDay y m d then 0 else 2
theorem okDay_f1 {y m d : Int} (h : inB y 2000 2099 = false) : okDay y m d = false := by unfold okDay; rw [h]; rfl
theorem okDay_f2 {y m d : Int} (h : inB m 1 12 = false) : okDay y m d = false := by unfold okDay; rw [h]; simp
theorem okDay_f3 {y m d : Int} (h : inB d 1 (mlen y m) = false) : okDay y m d = false := by unfold okDay; rw [h]; simp
theorem okDay_t {y m d : Int} (h : inB y 2000 2099 = true) (k : inB m 1 12 = true) (l : inB d 1 (mlen y m) = true) : okDay y m d = true := by unfold okDay; rw [h, k, l]; rfl
theorem num_f {y m d : Int} (h : okDay y m d = false) : numDay y m d = 0 ∧ codeDay y m d = 2 := by unfold numDay codeDay; rw [h]; exact ⟨rfl, rfl⟩
theorem num_t {y m d : Int} (h : okDay y m d = true) : numDay y m d = dn y m + d - 1 ∧ codeDay y m d = 0 := by unfold numDay codeDay; rw [h]; exact ⟨rfl, rfl⟩
theorem dn_4y (y : Int) : dn (y / 4 * 4) 1 = (y - 2000) / 4 * 1461 := by unfold dn; rw [cum1]; omega
theorem dn_hi (y m : Int) (h0 : 2000 ≤ y) (h1 : y ≤ 2100) (h2 : 1 ≤ m) (h3 : m ≤ 13) : 0 ≤ dn y m ∧ dn y m ≤ 40000 := by
  have := cum_bd y m h2 h3
  have := leap_01 y
  unfold dn
  omega
set_option maxHeartbeats 1000000 in
theorem implDay_any (y m d : Int) (w : World) : Calls Tryd.prog 32 #[.int .i64 y, .int .i64 m, .int .i64 d] w fun e w' => e = .returned (.tuple #[.int .i64 (numDay y m d), .int .i64 (codeDay y m d)]) ∧ w = w' := by
  rcases h0 : inB y 2000 2099 with _ | _
  · have F := Lib.hid (num_f (okDay_f1 (m := m) (d := d) h0))
    go_enter Tryd.func32, Tryd.ntmps32
    go_wp2_with (go_at_call 25; refine (within_any _ _ _ _).mono ?_; rintro e w' ⟨rfl, rfl⟩)
    go_ret2
    exact ⟨(ret2 F.out.1 F.out.2).symm, rfl⟩
  rcases h1 : inB m 1 12 with _ | _
  · have F := Lib.hid (num_f (okDay_f2 (y := y) (d := d) h1))
    go_enter Tryd.func32, Tryd.ntmps32
    go_wp2_with (go_at_call 25; refine (within_any _ _ _ _).mono ?_; rintro e w' ⟨rfl, rfl⟩)
    go_ret2
    exact ⟨(ret2 F.out.1 F.out.2).symm, rfl⟩
  obtain ⟨y0, y1⟩ := inB_yes h0
  obtain ⟨m0, m1⟩ := inB_yes h1
  obtain ⟨k1, k2⟩ := mlen_bd y m m0 m1
  rcases h2 : inB d 1 (mlen y m) with _ | _
  · have F := Lib.hid (num_f (okDay_f3 h2))
    go_enter Tryd.func32, Tryd.ntmps32
    go_wp2_with (first | (go_at_call 25; refine (within_any _ _ _ _).mono ?_; rintro e w' ⟨rfl, rfl⟩) | (go_at_call 43; refine (daysIn_any _ _ _ (by omega) (by omega) (by omega) (by omega)).mono ?_; rintro e w' ⟨rfl, rfl⟩))
    go_ret2
    exact ⟨(ret2 F.out.1 F.out.2).symm, rfl⟩
  have F := Lib.hid (num_t (okDay_t h0 h1 h2))
  obtain ⟨d0, d1⟩ := inB_yes h2
  go_enter Tryd.func32, Tryd.ntmps32
  go_wp2_with (first | (go_at_call 25; refine (within_any _ _ _ _).mono ?_; rintro e w' ⟨rfl, rfl⟩) | (go_at_call 43; refine (daysIn_any _ _ _ (by omega) (by omega) (by omega) (by omega)).mono ?_; rintro e w' ⟨rfl, rfl⟩))
  clear h0 h1 h2
  have hd32 : d ≤ 31 := by omega
  clear d1 k1 k2
  go_loop [8, 9] (fun a b => ∃ x k : Int, y / 4 * 4 ≤ x ∧ x ≤ y ∧ b = .int .i64 x ∧ a = .int .i64 k ∧ k = dn x 1 + d - 1) (fun _ b => (y - intOf b).toNat)
  case atStart => exact ⟨_, _, by omega, by omega, rfl, rfl, by rw [dn_4y]⟩
  case round =>
    obtain ⟨x, k, hx1, hx2, rfl, rfl, hk⟩ := hrel
    obtain ⟨l1, l2⟩ := leap_01 x
    have hx3 : 0 ≤ dn x 1 ∧ dn x 1 ≤ 40000 := dn_hi x 1 (by omega) (by omega) (by omega) (by omega)
    have hk1 : 0 ≤ k := by omega
    have hk2 : k ≤ 50000 := by omega
    have HK := Lib.hid hk
    clear hk hx3
    by_cases hc : x < y
    · go_wp2_with (go_at_call 43; refine (daysIn_year _ _ (by omega) (by omega)).mono ?_; rintro e w' ⟨rfl, rfl⟩)
      go_round
      case rel => exact ⟨_, _, by omega, by omega, rfl, rfl, by rw [dn_y]; have := HK.out; omega⟩
      case measure => simp [intOf]; omega
    · obtain rfl : x = y := by omega
      go_wp2_with fail
      go_loop [8, 10] (fun a b => ∃ i k : Int, 1 ≤ i ∧ i ≤ m ∧ b = .int .i64 i ∧ a = .int .i64 k ∧ k = dn x i + d - 1) (fun _ b => (m - intOf b).toNat)
      case atStart => exact ⟨_, _, by omega, by omega, rfl, rfl, HK.out⟩
      case round =>
        obtain ⟨i, k, hi1, hi2, rfl, rfl, hk⟩ := hrel
        have hx3 : 0 ≤ dn x i ∧ dn x i ≤ 40000 := dn_hi x i (by omega) (by omega) (by omega) (by omega)
        have hk1 : 0 ≤ k := by omega
        have hk2 : k ≤ 50000 := by omega
        have HK := Lib.hid hk
        clear hk hx3
        by_cases hc : i < m
        · obtain ⟨k1, k2⟩ := mlen_bd x i hi1 (by omega)
          go_wp2_with (go_at_call 43; refine (daysIn_any _ _ _ (by omega) (by omega) (by omega) (by omega)).mono ?_; rintro e w' ⟨rfl, rfl⟩)
          go_round
          case rel => exact ⟨_, _, by omega, by omega, rfl, rfl, by rw [dn_m]; have := HK.out; omega⟩
          case measure => simp [intOf]; omega
        · obtain rfl : i = m := by omega
          go_wp2_with fail
          go_ret2
          exact ⟨(ret2 (F.out.1.trans HK.out.symm) F.out.2).symm, rfl⟩
set_option maxHeartbeats 1000000 in
theorem l02Number_any (y m d : Int) (w : World) : Calls Tryd.prog 45 #[.int .i64 y, .int .i64 m, .int .i64 d] w fun e w' => e = .returned (.tuple #[.int .i64 (numDay y m d), .bool (okDay y m d)]) ∧ Below w.heap.size w w' := by
  rcases h0 : inB y 2000 2099 with _ | _
  · have G := Lib.hid (okDay_f1 (m := m) (d := d) h0)
    have F := Lib.hid (num_f G.out)
    go_enter Tryd.func45, Tryd.ntmps45
    go_wp2_with (go_at_call 38; refine (l00In_any _ _ _ _).mono ?_; rintro e w' ⟨rfl, rfl⟩)
    go_ret2
    exact ⟨(ret2b F.out.1 G.out).symm, Below.refl _ _⟩
  rcases h1 : inB m 1 12 with _ | _
  · have G := Lib.hid (okDay_f2 (y := y) (d := d) h1)
    have F := Lib.hid (num_f G.out)
    go_enter Tryd.func45, Tryd.ntmps45
    go_wp2_with (go_at_call 38; refine (l00In_any _ _ _ _).mono ?_; rintro e w' ⟨rfl, rfl⟩)
    go_ret2
    exact ⟨(ret2b F.out.1 G.out).symm, Below.refl _ _⟩
  obtain ⟨y0, y1⟩ := inB_yes h0
  obtain ⟨m0, m1⟩ := inB_yes h1
  obtain ⟨k1, k2⟩ := mlen_bd y m m0 m1
  rcases h2 : inB d 1 (mlen y m) with _ | _
  · have G := Lib.hid (okDay_f3 h2)
    have F := Lib.hid (num_f G.out)
    go_enter Tryd.func45, Tryd.ntmps45
    go_wp2_with (first | (go_at_call 38; refine (l00In_any _ _ _ _).mono ?_; rintro e w' ⟨rfl, rfl⟩) | (go_at_call 53; refine (l02Length_any _ _ _ (by omega) (by omega) (by omega) (by omega)).mono ?_; rintro e w1 ⟨rfl, hb1⟩))
    go_ret2
    exact ⟨(ret2b F.out.1 G.out).symm, hb1⟩
  have G := Lib.hid (okDay_t h0 h1 h2)
  have F := Lib.hid (num_t G.out)
  obtain ⟨d0, d1⟩ := inB_yes h2
  go_enter Tryd.func45, Tryd.ntmps45
  go_wp2_with (first | (go_at_call 38; refine (l00In_any _ _ _ _).mono ?_; rintro e w' ⟨rfl, rfl⟩) | (go_at_call 53; refine (l02Length_any _ _ _ (by omega) (by omega) (by omega) (by omega)).mono ?_; rintro e w1 ⟨rfl, hb1⟩))
  clear h0 h1 h2
  have hd32 : d ≤ 31 := by omega
  clear d1 k1 k2
  go_loop [8, 9] (fun a b => ∃ x k : Int, 2000 ≤ x ∧ x ≤ y ∧ b = .int .i64 x ∧ a = .int .i64 k ∧ k = dn x 1 + d - 1) (fun _ b => (y - intOf b).toNat)
  case atStart => exact ⟨_, _, by omega, by omega, rfl, rfl, by rw [dn_2000]; omega⟩
  case round =>
    obtain ⟨x, k, hx1, hx2, rfl, rfl, hk⟩ := hrel
    have hx3 : 0 ≤ dn x 1 ∧ dn x 1 ≤ 40000 := dn_hi x 1 (by omega) (by omega) (by omega) (by omega)
    have hk1 : 0 ≤ k := by omega
    have hk2 : k ≤ 50000 := by omega
    have HK := Lib.hid hk
    clear hk hx3
    by_cases hc : x < y
    · by_cases hl : x % 4 = 0
      · have L := Lib.hid (leap_t hl)
        have hl' : (x % 4 == 0) = true := beq_iff_eq.2 hl
        clear hl
        go_wp2_with fail
        go_round
        case rel => exact ⟨_, _, by omega, by omega, rfl, rfl, by rw [dn_y, L.out]; have := HK.out; omega⟩
        case measure => simp [intOf]; omega
      · have L := Lib.hid (leap_f hl)
        have hl' : (x % 4 == 0) = false := beq_eq_false_iff_ne.2 hl
        clear hl
        go_wp2_with fail
        go_round
        case rel => exact ⟨_, _, by omega, by omega, rfl, rfl, by rw [dn_y, L.out]; have := HK.out; omega⟩
        case measure => simp [intOf]; omega
    · obtain rfl : x = y := by omega
      go_wp2_with fail
      go_loopw [8, 10] (fun a b wr => ∃ i k : Int, 1 ≤ i ∧ i ≤ m ∧ b = .int .i64 i ∧ a = .int .i64 k ∧ k = dn x i + d - 1 ∧ Below w.heap.size w wr) (fun _ b _ => (m - intOf b).toNat)
      case atStart => exact ⟨_, _, by omega, by omega, rfl, rfl, HK.out, hb1⟩
      case round =>
        obtain ⟨i, k, hi1, hi2, rfl, rfl, hk, hbr⟩ := hrel
        have hx3 : 0 ≤ dn x i ∧ dn x i ≤ 40000 := dn_hi x i (by omega) (by omega) (by omega) (by omega)
        have hk1 : 0 ≤ k := by omega
        have hk2 : k ≤ 50000 := by omega
        have HK := Lib.hid hk
        clear hk hx3
        by_cases hc : i < m
        · obtain ⟨k1, k2⟩ := mlen_bd x i hi1 (by omega)
          go_wp2_with fail
          refine (l02Length_any _ _ _ (by omega) (by omega) (by omega) (by omega)).mono ?_
          rintro e w2 ⟨rfl, hb2⟩
          go_wp2_with fail
          go_roundw
          case rel => exact ⟨_, _, by omega, by omega, rfl, rfl, by rw [dn_m]; have := HK.out; omega, bl_trans hbr hb2⟩
          case measure => simp [intOf]; omega
        · obtain rfl : i = m := by omega
          go_wp2_with fail
          go_ret2
          exact ⟨(ret2b (F.out.1.trans HK.out.symm) G.out).symm, hbr⟩
end Go.Proofs.YtfpiaajnphidiaaDoor
