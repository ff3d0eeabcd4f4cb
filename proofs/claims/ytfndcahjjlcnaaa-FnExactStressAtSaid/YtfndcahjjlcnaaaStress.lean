/- The stress of a layer on a slope: the contracts of StressAt and what it calls, on both sides. -/
import Derived.Test.YtfndcahjjlcnaaaLoad
import Derived.Test.YtfndcahjjlcnaaaDiv
namespace Go.Proofs.Ytfndcahjjlcnaaa
open Go.ChangeShapes Go.WideShapes Go.ChangeAt Go.RowKit Go.Joins Go.Deep
set_option linter.unusedVariables false
def slopeB (r u : Int) : Bool := inB r 0 1000 && inB u 1 1000
theorem slopeB_b {r u : Int} (h : slopeB r u = true) : (0 ≤ r ∧ r ≤ 1000) ∧ 1 ≤ u ∧ u ≤ 1000 := by
  unfold slopeB at h
  simp only [Bool.and_eq_true] at h
  exact ⟨inB_yes h.1, inB_yes h.2⟩
def stressF (l r u : Int) : Int := rdiv (l * 981 * r * u) (100000 * (r * r + u * u))
structure StB (l r u : Int) : Prop where
  a0 : 0 ≤ l * 981 * r
  a1 : l * 981 * r ≤ 40000000000000
  b0 : 0 ≤ l * 981 * r * u
  b1 : l * 981 * r * u ≤ 40000000000000000
  c0 : 0 ≤ r * r
  c1 : r * r ≤ 1000000
  d0 : 1 ≤ u * u
  d1 : u * u ≤ 1000000
theorem st_bd {l r u : Int} (h0 : 0 ≤ l) (h1 : l ≤ 40000000) (h2 : 0 ≤ r) (h3 : r ≤ 1000) (h4 : 1 ≤ u) (h5 : u ≤ 1000) : StB l r u := by
  have a0 : 0 ≤ l * 981 * r := Int.mul_nonneg (by omega) h2
  have a1 : l * 981 * r ≤ 39240000000 * 1000 := Int.mul_le_mul (by omega) h3 h2 (by omega)
  have b0 : 0 ≤ l * 981 * r * u := Int.mul_nonneg a0 (by omega)
  have b1 : l * 981 * r * u ≤ 40000000000000 * 1000 := Int.mul_le_mul (by omega) h5 (by omega) (by omega)
  have c0 : 0 ≤ r * r := Int.mul_nonneg h2 h2
  have c1 : r * r ≤ 1000 * 1000 := Int.mul_le_mul h3 h3 h2 (by omega)
  have d0 : 1 * 1 ≤ u * u := Int.mul_le_mul h4 h4 (by omega) (by omega)
  have d1 : u * u ≤ 1000 * 1000 := Int.mul_le_mul h5 h5 (by omega) (by omega)
  exact ⟨a0, by omega, b0, by omega, c0, by omega, by omega, by omega⟩
theorem stressF_bd {l r u : Int} (h : StB l r u) : 0 ≤ stressF l r u ∧ stressF l r u ≤ 400000000001 := by
  obtain ⟨a0, a1, b0, b1, c0, c1, d0, d1⟩ := h
  unfold stressF rdiv rdivP
  generalize l * 981 * r * u = m at *
  generalize r * r = p at *
  generalize u * u = q at *
  rw [if_neg (by omega), if_neg (by omega)]
  refine ⟨Int.ediv_nonneg (by omega) (by omega), ?_⟩
  refine Int.le_trans (Int.ediv_le_ediv (c := 2 * (100000 * (p + q))) (by omega) (show 2 * m + 100000 * (p + q) ≤ 400000000001 * (2 * (100000 * (p + q))) by omega)) ?_
  rw [Int.mul_ediv_cancel _ (by omega)]
  exact Int.le_refl _
theorem l07Slope_any (r u : Int) (w : World) : Calls Try.prog 42 #[.int .i64 r, .int .i64 u] w fun e w' => e = .returned (.bool (slopeB r u)) ∧ w = w' := by
  rcases h : inB r 0 1000 with _ | _
  · have F : Hid (slopeB r u = false) := by show _ = _; unfold slopeB; rw [h]; rfl
    go_enter Try.func42, Try.ntmps42
    go_wp2_with (go_at_call 35; refine (l00In_any _ _ _ _).mono ?_; rintro e w' ⟨rfl, rfl⟩)
    go_ret
    exact ⟨(ret_bool F.out).symm, rfl⟩
  · have F : Hid (slopeB r u = inB u 1 1000) := by show _ = _; unfold slopeB; rw [h]; rfl
    go_enter Try.func42, Try.ntmps42
    go_wp2_with (go_at_call 35; refine (l00In_any _ _ _ _).mono ?_; rintro e w' ⟨rfl, rfl⟩)
    go_ret
    exact ⟨(ret_bool F.out).symm, rfl⟩
theorem slopeOk_any (r u : Int) (w : World) : Calls Try.prog 46 #[.int .i64 r, .int .i64 u] w fun e w' => e = .returned (.bool (slopeB r u)) ∧ w = w' := by
  rcases h : inB r 0 1000 with _ | _
  · have F : Hid (slopeB r u = false) := by show _ = _; unfold slopeB; rw [h]; rfl
    go_enter Try.func46, Try.ntmps46
    go_wp2_with (go_at_call 37; refine (within_any _ _ _ _).mono ?_; rintro e w' ⟨rfl, rfl⟩)
    go_ret
    exact ⟨(ret_bool F.out).symm, rfl⟩
  · have F : Hid (slopeB r u = inB u 1 1000) := by show _ = _; unfold slopeB; rw [h]; rfl
    go_enter Try.func46, Try.ntmps46
    go_wp2_with (go_at_call 37; refine (within_any _ _ _ _).mono ?_; rintro e w' ⟨rfl, rfl⟩)
    go_ret
    exact ⟨(ret_bool F.out).symm, rfl⟩
theorem l07Stress_any (l r u : Int) (w : World) (h0 : 0 ≤ l) (h1 : l ≤ 40000000) (h2 : 0 ≤ r) (h3 : r ≤ 1000) (h4 : 1 ≤ u) (h5 : u ≤ 1000) : Calls Try.prog 43 #[.int .i64 l, .int .i64 r, .int .i64 u] w fun e w' => e = .returned (.int .i64 (stressF l r u)) ∧ w = w' := by
  obtain ⟨a0, a1, b0, b1, c0, c1, d0, d1⟩ := st_bd h0 h1 h2 h3 h4 h5
  have F : Hid (rdiv (l * 981 * r * u) (100000 * (r * r + u * u)) = stressF l r u) := rfl
  go_enter Try.func43, Try.ntmps43
  go_wp2_with (go_at_call 60; refine (l01Div_any _ _ _ (by omega) (by omega) (by omega) (by omega) (by omega)).mono ?_; rintro e w' ⟨rfl, rfl⟩)
  go_ret
  exact ⟨ret_int F.out, rfl⟩
theorem stressOf_any (l r u : Int) (w : World) (h0 : 0 ≤ l) (h1 : l ≤ 40000000) (h2 : 0 ≤ r) (h3 : r ≤ 1000) (h4 : 1 ≤ u) (h5 : u ≤ 1000) : Calls Try.prog 47 #[.int .i64 l, .int .i64 r, .int .i64 u] w fun e w' => e = .returned (.int .i64 (stressF l r u)) ∧ ∃ n, w' = w.drewN n := by
  obtain ⟨a0, a1, b0, b1, c0, c1, d0, d1⟩ := st_bd h0 h1 h2 h3 h4 h5
  have F : Hid (rdiv (981 * l * r * u) (100000 * (r * r + u * u)) = stressF l r u) := by show _ = _; unfold stressF; rw [Int.mul_comm 981 l]
  rw [Int.mul_comm l 981] at a0 a1 b0 b1
  go_enter Try.func47, Try.ntmps47
  go_wp2_with (go_at_call 61; refine (divRound_any _ _ _ (by omega) (by omega) (by omega) (by omega) (by omega)).mono ?_; rintro e w' ⟨rfl, nd, rfl⟩)
  go_ret
  exact ⟨ret_int F.out, _, rfl⟩
def stC (ls : List Ly) (k r u : Int) : Int := if okL ls then (if inB k 0 ((ls.length : Int) - 1) then (if slopeB r u then 0 else 2) else 2) else 1
def stV (ls : List Ly) (k r u : Int) : Int := if stC ls k r u = 0 then stressF (loadF ls k.toNat) r u else 0
theorem st_1 {ls : List Ly} (h : okL ls = false) (k r u : Int) : stV ls k r u = 0 ∧ stC ls k r u = 1 := by
  have : stC ls k r u = 1 := by unfold stC; rw [h]; rfl
  exact ⟨by unfold stV; rw [this]; rfl, this⟩
theorem st_2 {ls : List Ly} {k : Int} (h : okL ls = true) (h2 : inB k 0 ((ls.length : Int) - 1) = false) (r u : Int) : stV ls k r u = 0 ∧ stC ls k r u = 2 := by
  have : stC ls k r u = 2 := by unfold stC; rw [h, h2]; rfl
  exact ⟨by unfold stV; rw [this]; rfl, this⟩
theorem st_3 {ls : List Ly} {k r u : Int} (h : okL ls = true) (h2 : inB k 0 ((ls.length : Int) - 1) = true) (h3 : slopeB r u = false) : stV ls k r u = 0 ∧ stC ls k r u = 2 := by
  have : stC ls k r u = 2 := by unfold stC; rw [h, h2, h3]; rfl
  exact ⟨by unfold stV; rw [this]; rfl, this⟩
theorem st_0 {ls : List Ly} {k r u : Int} (h : okL ls = true) (h2 : inB k 0 ((ls.length : Int) - 1) = true) (h3 : slopeB r u = true) : stV ls k r u = stressF (loadF ls k.toNat) r u ∧ stC ls k r u = 0 := by
  have : stC ls k r u = 0 := by unfold stC; rw [h, h2, h3]; rfl
  exact ⟨by unfold stV; rw [this]; rfl, this⟩
theorem specStress_any (A : Option Addr) (c : Nat) (ls : List Ly) (k r u : Int) (w : World) (hr : RdL w A ls) (hn : ls.length ≤ 1048576) (hc : ls.length ≤ c) :
    Calls Try.prog 19 #[.slice A ls.length c, .int .i64 k, .int .i64 r, .int .i64 u] w fun e w' => e = .returned (.tuple #[.int .i64 (stV ls k r u), .int .i64 (stC ls k r u)]) ∧ Below w.heap.size w w' := by
  rcases hok : okL ls with _ | _
  · have F := Lib.hid (st_1 hok k r u)
    have G := ask_1 hok k
    go_enter Try.func19, Try.ntmps19
    go_wp2_with (go_at_call 41; refine (l03Ask_any A c ls _ _ hr hn).mono ?_; rintro e w' ⟨rfl, rfl⟩)
    go_ret2
    exact ⟨(ret2i F.out.1 F.out.2).symm, Below.refl _ _⟩
  rcases hin : inB k 0 ((ls.length : Int) - 1) with _ | _
  · have F := Lib.hid (st_2 hok hin r u)
    have G := ask_2 hok hin
    go_enter Try.func19, Try.ntmps19
    go_wp2_with (go_at_call 41; refine (l03Ask_any A c ls _ _ hr hn).mono ?_; rintro e w' ⟨rfl, rfl⟩)
    go_ret2
    exact ⟨(ret2i F.out.1 F.out.2).symm, Below.refl _ _⟩
  have G := ask_0 hok hin
  rcases hsl : slopeB r u with _ | _
  · have F := Lib.hid (st_3 hok hin hsl)
    go_enter Try.func19, Try.ntmps19
    go_wp2_with (first | (go_at_call 41; refine (l03Ask_any A c ls _ _ hr hn).mono ?_; rintro e w' ⟨rfl, rfl⟩) | (go_at_call 42; refine (l07Slope_any _ _ _).mono ?_; rintro e w' ⟨rfl, rfl⟩))
    go_ret2
    exact ⟨(ret2i F.out.1 F.out.2).symm, Below.refl _ _⟩
  have F := Lib.hid (st_0 hok hin hsl)
  obtain ⟨k0, k1⟩ := inB_yes hin
  obtain ⟨m, rfl⟩ := Int.eq_ofNat_of_zero_le k0
  have V := VL.of_ok hok
  obtain ⟨l0, l1⟩ := loadF_bd V m
  obtain ⟨⟨r0, r1⟩, u0, u1⟩ := slopeB_b hsl
  go_enter Try.func19, Try.ntmps19
  go_wp2_with (first | (go_at_call 41; refine (l03Ask_any A c ls _ _ hr hn).mono ?_; rintro e w' ⟨rfl, rfl⟩) | (go_at_call 42; refine (l07Slope_any _ _ _).mono ?_; rintro e w' ⟨rfl, rfl⟩) | (go_at_call 44; refine (l03Load_any A c ls m _ hr V hc (by omega)).mono ?_; rintro e w' ⟨rfl, rfl⟩) | (go_at_call 43; refine (l07Stress_any _ _ _ _ (by omega) (by omega) (by omega) (by omega) (by omega) (by omega)).mono ?_; rintro e w' ⟨rfl, rfl⟩))
  go_ret2
  exact ⟨(ret2i (F.out.1.trans (by rw [Int.toNat_natCast])) F.out.2).symm, Below.refl _ _⟩
theorem implStress_any (A : Option Addr) (c : Nat) (ls : List Ly) (k r u : Int) (w : World) (hr : RdL w A ls) (hn : ls.length ≤ 1048576) (hc : ls.length ≤ c) :
    Calls Try.prog 20 #[.slice A ls.length c, .int .i64 k, .int .i64 r, .int .i64 u] w fun e w' => e = .returned (.tuple #[.int .i64 (stV ls k r u), .int .i64 (stC ls k r u)]) ∧ Below w.heap.size w w' := by
  rcases hok : okL ls with _ | _
  · have F := Lib.hid (st_1 hok k r u)
    go_enter Try.func20, Try.ntmps20
    go_wp2_with (go_at_call 32; refine (validProfile_any A c ls _ hr hn).mono ?_; rintro e w1 ⟨rfl, hb1⟩)
    go_ret2
    exact ⟨(ret2i F.out.1 F.out.2).symm, hb1⟩
  rcases hin : inB k 0 ((ls.length : Int) - 1) with _ | _
  · have F := Lib.hid (st_2 hok hin r u)
    go_enter Try.func20, Try.ntmps20
    go_wp2_with (first | (go_at_call 32; refine (validProfile_any A c ls _ hr hn).mono ?_; rintro e w1 ⟨rfl, hb1⟩) | (go_at_call 45; refine (indexValid_any A c ls _ _ hn).mono ?_; rintro e w' ⟨rfl, rfl⟩))
    go_ret2
    exact ⟨(ret2i F.out.1 F.out.2).symm, hb1⟩
  rcases hsl : slopeB r u with _ | _
  · have F := Lib.hid (st_3 hok hin hsl)
    go_enter Try.func20, Try.ntmps20
    go_wp2_with (first | (go_at_call 32; refine (validProfile_any A c ls _ hr hn).mono ?_; rintro e w1 ⟨rfl, hb1⟩) | (go_at_call 45; refine (indexValid_any A c ls _ _ hn).mono ?_; rintro e w' ⟨rfl, rfl⟩) | (go_at_call 46; refine (slopeOk_any _ _ _).mono ?_; rintro e w' ⟨rfl, rfl⟩))
    go_ret2
    exact ⟨(ret2i F.out.1 F.out.2).symm, hb1⟩
  have F := Lib.hid (st_0 hok hin hsl)
  obtain ⟨k0, k1⟩ := inB_yes hin
  obtain ⟨m, rfl⟩ := Int.eq_ofNat_of_zero_le k0
  have V := VL.of_ok hok
  obtain ⟨l0, l1⟩ := loadF_bd V m
  obtain ⟨⟨r0, r1⟩, u0, u1⟩ := slopeB_b hsl
  go_enter Try.func20, Try.ntmps20
  go_wp2_with (first | (go_at_call 32; refine (validProfile_any A c ls _ hr hn).mono ?_; rintro e w1 ⟨rfl, hb1⟩) | (go_at_call 45; refine (indexValid_any A c ls _ _ hn).mono ?_; rintro e w' ⟨rfl, rfl⟩) | (go_at_call 46; refine (slopeOk_any _ _ _).mono ?_; rintro e w' ⟨rfl, rfl⟩) | (go_at_call 48; refine (loadAbove_any A c ls m _ (hr.below hb1) V hc (by omega)).mono ?_; rintro e w2 ⟨rfl, hb2⟩) | (go_at_call 47; refine (stressOf_any _ _ _ _ (by omega) (by omega) (by omega) (by omega) (by omega) (by omega)).mono ?_; rintro e w' ⟨rfl, nd, rfl⟩))
  go_ret2
  exact ⟨(ret2i (F.out.1.trans (by rw [Int.toNat_natCast])) F.out.2).symm, bl_drewN (bl_trans hb1 hb2) _⟩
end Go.Proofs.Ytfndcahjjlcnaaa
