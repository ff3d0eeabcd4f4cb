/- A layer an hour later under a load: the contracts of the program's and of the reference's functions. -/
import Derived.Test.YtnlikinckmoomaaOkL
import Derived.Test.YtnlikinckmoomaaSum
namespace Go.Proofs.Ytnlikinckmoomaa
open Go.ChangeShapes Go.WideShapes Go.ChangeAt Go.RowKit Go.Joins Go.Deep
set_option linter.unusedVariables false
def settleD (d load : Int) : Int := if d < 550 then (if d + (550 - d) * load / 10000000 ≤ 550 then d + (550 - d) * load / 10000000 else 550) else d
def settleA (a : Int) : Int := if a + 1 ≤ 10000 then a + 1 else 10000
def settleF (x : Ly) (load : Int) : Ly := { x with dens := settleD x.dens load, age := settleA x.age }
theorem sD_lo {d l : Int} (h : d < 550) (k : d + (550 - d) * l / 10000000 ≤ 550) : settleD d l = d + (550 - d) * l / 10000000 := by unfold settleD; rw [if_pos h, if_pos k]
theorem sD_hi {d l : Int} (h : d < 550) (k : ¬ d + (550 - d) * l / 10000000 ≤ 550) : settleD d l = 550 := by unfold settleD; rw [if_pos h, if_neg k]
theorem sD_no {d l : Int} (h : ¬ d < 550) : settleD d l = d := by unfold settleD; rw [if_neg h]
theorem sA_lo {a : Int} (h : a + 1 ≤ 10000) : settleA a = a + 1 := by unfold settleA; rw [if_pos h]
theorem sA_hi {a : Int} (h : ¬ a + 1 ≤ 10000) : settleA a = 10000 := by unfold settleA; rw [if_neg h]
theorem prod_load (d l : Int) (h0 : 30 ≤ d) (h1 : d < 550) (h2 : 0 ≤ l) (h3 : l ≤ 32000000) : 0 ≤ (550 - d) * l ∧ (550 - d) * l ≤ 17600000000 := by
  have a : 0 ≤ (550 - d) * l := Int.mul_nonneg (by omega) h2
  have b : (550 - d) * l ≤ 550 * 32000000 := Int.mul_le_mul (by omega) h3 h2 (by omega)
  omega
theorem settleD_bd (d l : Int) (h0 : 30 ≤ d) (h1 : d ≤ 900) (h2 : 0 ≤ l) (h3 : l ≤ 32000000) : 30 ≤ settleD d l ∧ settleD d l ≤ 900 := by
  unfold settleD
  split
  · have := prod_load d l h0 (by assumption) h2 h3
    split <;> omega
  · omega
theorem settle_b {x : Ly} (h : LyB x) (l : Int) (h2 : 0 ≤ l) (h3 : l ≤ 32000000) : LyB (settleF x l) := by
  have e := settleD_bd x.dens l h.d0 h.d1 h2 h3
  obtain ⟨f0, f1, i0, i1, w0, w1, d0, d1, g0, g1, k0, k1, a0, a1⟩ := h
  refine ⟨f0, f1, i0, i1, w0, w1, e.1, e.2, g0, g1, k0, k1, ?_, ?_⟩ <;> (simp only [settleF, settleA]; split <;> omega)
set_option maxHeartbeats 1000000 in
theorem settled_any (x : Ly) (load : Int) (w : World) (hx : LyB x) (h2 : 0 ≤ load) (h3 : load ≤ 32000000) :
    Calls Try.prog 72 #[.agg #[.int .i64 x.form, .int .i64 x.ice, .int .i64 x.water, .int .i64 x.dens, .int .i64 x.deg, .int .i64 x.hard, .int .i64 x.age], .int .i64 load] w fun e w' => e = .returned (.agg #[.int .i64 x.form, .int .i64 x.ice, .int .i64 x.water, .int .i64 (settleD x.dens load), .int .i64 x.deg, .int .i64 x.hard, .int .i64 (settleA x.age)]) ∧ Below w.heap.size w w' := by
  obtain ⟨f0, f1, i0, i1, w0, w1, d0, d1, g0, g1, k0, k1, a0, a1⟩ := hx
  by_cases hd : x.dens < 550
  · obtain ⟨p0, p1⟩ := prod_load x.dens load d0 hd h2 h3
    by_cases hq : x.dens + (550 - x.dens) * load / 10000000 ≤ 550
    · have F1 := Lib.hid (sD_lo hd hq)
      by_cases hA : x.age + 1 ≤ 10000
      · have F2 := Lib.hid (sA_lo hA)
        go_enter Try.func72, Try.ntmps72
        go_wp2
        refine bodyPost_ret (v := .agg #[.int .i64 x.form, .int .i64 x.ice, .int .i64 x.water, .int .i64 (x.dens + (550 - x.dens) * load / 10000000), .int .i64 x.deg, .int .i64 x.hard, .int .i64 (x.age + 1)]) (by simp [results, Try.results72, go_sem]) rfl ⟨by rw [F1.out, F2.out], ?_⟩
        repeat (first | exact Below.refl _ _ | apply bl_alloc)
      · have F2 := Lib.hid (sA_hi hA)
        go_enter Try.func72, Try.ntmps72
        go_wp2
        refine bodyPost_ret (v := .agg #[.int .i64 x.form, .int .i64 x.ice, .int .i64 x.water, .int .i64 (x.dens + (550 - x.dens) * load / 10000000), .int .i64 x.deg, .int .i64 x.hard, .int .i64 10000]) (by simp [results, Try.results72, go_sem]) rfl ⟨by rw [F1.out, F2.out], ?_⟩
        repeat (first | exact Below.refl _ _ | apply bl_alloc)
    · have F1 := Lib.hid (sD_hi hd hq)
      by_cases hA : x.age + 1 ≤ 10000
      · have F2 := Lib.hid (sA_lo hA)
        go_enter Try.func72, Try.ntmps72
        go_wp2
        refine bodyPost_ret (v := .agg #[.int .i64 x.form, .int .i64 x.ice, .int .i64 x.water, .int .i64 550, .int .i64 x.deg, .int .i64 x.hard, .int .i64 (x.age + 1)]) (by simp [results, Try.results72, go_sem]) rfl ⟨by rw [F1.out, F2.out], ?_⟩
        repeat (first | exact Below.refl _ _ | apply bl_alloc)
      · have F2 := Lib.hid (sA_hi hA)
        go_enter Try.func72, Try.ntmps72
        go_wp2
        refine bodyPost_ret (v := .agg #[.int .i64 x.form, .int .i64 x.ice, .int .i64 x.water, .int .i64 550, .int .i64 x.deg, .int .i64 x.hard, .int .i64 10000]) (by simp [results, Try.results72, go_sem]) rfl ⟨by rw [F1.out, F2.out], ?_⟩
        repeat (first | exact Below.refl _ _ | apply bl_alloc)
  · have F1 := Lib.hid (sD_no (l := load) hd)
    by_cases hA : x.age + 1 ≤ 10000
    · have F2 := Lib.hid (sA_lo hA)
      go_enter Try.func72, Try.ntmps72
      go_wp2
      refine bodyPost_ret (v := .agg #[.int .i64 x.form, .int .i64 x.ice, .int .i64 x.water, .int .i64 x.dens, .int .i64 x.deg, .int .i64 x.hard, .int .i64 (x.age + 1)]) (by simp [results, Try.results72, go_sem]) rfl ⟨by rw [F1.out, F2.out], ?_⟩
      repeat (first | exact Below.refl _ _ | apply bl_alloc)
    · have F2 := Lib.hid (sA_hi hA)
      go_enter Try.func72, Try.ntmps72
      go_wp2
      refine bodyPost_ret (v := .agg #[.int .i64 x.form, .int .i64 x.ice, .int .i64 x.water, .int .i64 x.dens, .int .i64 x.deg, .int .i64 x.hard, .int .i64 10000]) (by simp [results, Try.results72, go_sem]) rfl ⟨by rw [F1.out, F2.out], ?_⟩
      repeat (first | exact Below.refl _ _ | apply bl_alloc)
def minI (a b : Int) : Int := if a < b then a else b
theorem l00Min_any (a b : Int) (w : World) : Calls Try.prog 65 #[.int .i64 a, .int .i64 b] w fun e w' => e = .returned (.int .i64 (minI a b)) ∧ w = w' := by
  by_cases h : a < b
  · have F : Hid (minI a b = a) := by show minI a b = a; unfold minI; rw [if_pos h]
    go_enter Try.func65, Try.ntmps65
    go_wp2
    go_ret
    exact ⟨(ret_int F.out).symm, rfl⟩
  · have F : Hid (minI a b = b) := by show minI a b = b; unfold minI; rw [if_neg h]
    go_enter Try.func65, Try.ntmps65
    go_wp2
    go_ret
    exact ⟨(ret_int F.out).symm, rfl⟩
theorem min_550 (d : Int) : minI 550 d = if d ≤ 550 then d else 550 := by unfold minI; split <;> split <;> omega
theorem min_age (a : Int) : minI 10000 (a + 1) = settleA a := by unfold minI settleA; split <;> split <;> omega
theorem sD_min {d l : Int} (h : d < 550) : minI 550 (d + (550 - d) * l / 10000000) = settleD d l := by unfold settleD minI; rw [if_pos h]; split <;> split <;> omega
theorem l05Settle_any (x : Ly) (g o : Nat) (load : Int) (w : World) (hx : LyB x) (hl : LyAt w g o x) (h2 : 0 ≤ load) (h3 : load ≤ 32000000) :
    Calls Try.prog 70 #[.pointer (some ⟨g, o, none⟩), .int .i64 load] w fun e w' => e = .returned (.agg #[.int .i64 x.form, .int .i64 x.ice, .int .i64 x.water, .int .i64 (settleD x.dens load), .int .i64 x.deg, .int .i64 x.hard, .int .i64 (settleA x.age)]) ∧ Below w.heap.size w w' := by
  obtain ⟨f0, f1, i0, i1, w0, w1, d0, d1, g0, g1, k0, k1, a0, a1⟩ := hx
  have hg := hl.lt
  obtain ⟨c0, c1, c2, c3, c4, c5, c6⟩ := hl
  have F2 := min_age x.age
  by_cases hd : x.dens < 550
  · obtain ⟨p0, p1⟩ := prod_load x.dens load d0 hd h2 h3
    have F1 := sD_min (l := load) hd
    go_enter Try.func70, Try.ntmps70
    go_wp2_with (go_at_call 65; refine (l00Min_any _ _ _).mono ?_; rintro e w' ⟨rfl, rfl⟩)
    refine bodyPost_ret (v := .agg #[.int .i64 x.form, .int .i64 x.ice, .int .i64 x.water, .int .i64 (settleD x.dens load), .int .i64 x.deg, .int .i64 x.hard, .int .i64 (settleA x.age)]) (by simp [results, Try.results70, go_sem]) rfl ⟨rfl, ?_⟩
    repeat (first | exact Below.refl _ _ | apply bl_alloc)
  · have F1 := sD_no (l := load) hd
    go_enter Try.func70, Try.ntmps70
    go_wp2_with (go_at_call 65; refine (l00Min_any _ _ _).mono ?_; rintro e w' ⟨rfl, rfl⟩)
    refine bodyPost_ret (v := .agg #[.int .i64 x.form, .int .i64 x.ice, .int .i64 x.water, .int .i64 x.dens, .int .i64 x.deg, .int .i64 x.hard, .int .i64 (settleA x.age)]) (by simp [results, Try.results70, go_sem]) rfl ⟨by rw [F1], ?_⟩
    repeat (first | exact Below.refl _ _ | apply bl_alloc)
end Go.Proofs.Ytnlikinckmoomaa
