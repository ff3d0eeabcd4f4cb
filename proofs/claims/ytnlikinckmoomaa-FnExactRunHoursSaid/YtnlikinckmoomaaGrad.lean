/- The gradient between two layers: the contracts of GradientOf and what it calls, on both sides. -/
import Derived.Test.YtnlikinckmoomaaHeight
import Derived.Test.YtnlikinckmoomaaLst
import Derived.RegionTactic
import Derived.BigRegion
import Derived.Deep.RegionHeld3
import Derived.Deep.DeepCutAuto
namespace Go.Proofs.Ytnlikinckmoomaa
open Go.ChangeShapes Go.WideShapes Go.ChangeAt Go.RowKit Go.Joins Go.Deep
set_option linter.unusedVariables false
def maxI (a b : Int) : Int := if b < a then a else b
def wayF (x y : Ly) : Int := maxI 1 ((thick x + thick y) / 2)
def gradF (x y : Ly) : Int := rdiv ((y.deg - x.deg) * 1000) (wayF x y)
theorem wayF_bd {x y : Ly} (hx : LyB x) (hy : LyB y) : 1 ≤ wayF x y ∧ wayF x y ≤ 1000000 := by
  have := thick_bd hx
  have := thick_bd hy
  unfold wayF maxI
  split <;> omega
theorem gradF_bd {x y : Ly} (hx : LyB x) (hy : LyB y) : -4000001 ≤ gradF x y ∧ gradF x y ≤ 4000001 := by
  obtain ⟨w0, w1⟩ := wayF_bd hx hy
  have d0 := hx.g0
  have d1 := hx.g1
  have e0 := hy.g0
  have e1 := hy.g1
  unfold gradF
  generalize wayF x y = b at *
  have hd : -4000000 ≤ (y.deg - x.deg) * 1000 ∧ (y.deg - x.deg) * 1000 ≤ 4000000 := by omega
  generalize (y.deg - x.deg) * 1000 = a at *
  unfold rdiv rdivP
  rw [if_neg (by omega)]
  split
  · have h1 : 0 ≤ (b - 2 * a) / (2 * b) := Int.ediv_nonneg (by omega) (by omega)
    have h2 : (b - 2 * a) / (2 * b) ≤ 4000001 := by
      refine Int.le_trans (Int.ediv_le_ediv (c := 2 * b) (by omega) (show b - 2 * a ≤ 4000001 * (2 * b) by omega)) ?_
      rw [Int.mul_ediv_cancel _ (by omega)]; exact Int.le_refl _
    omega
  · have h1 : 0 ≤ (2 * a + b) / (2 * b) := Int.ediv_nonneg (by omega) (by omega)
    have h2 : (2 * a + b) / (2 * b) ≤ 4000001 := by
      refine Int.le_trans (Int.ediv_le_ediv (c := 2 * b) (by omega) (show 2 * a + b ≤ 4000001 * (2 * b) by omega)) ?_
      rw [Int.mul_ediv_cancel _ (by omega)]; exact Int.le_refl _
    omega
theorem quiet_add_left {P : Program} {f : FuncId} {args : Array Value} {w : World} {a n : Nat} {v : Value}
    (h : Calls P f args (w.drewN (a + n)) fun e w' => e = .returned v ∧ w.drewN (a + n) = w') :
    Calls P f args (w.drewN (a + n)) fun e w'' => e = .returned v ∧ ∃ m, w'' = w.drewN (a + m) :=
  h.mono fun _ _ ⟨he, hm⟩ => ⟨he, n, hm.symm⟩
theorem l00Max_any (a b : Int) (w : World) : Calls Try.prog 59 #[.int .i64 a, .int .i64 b] w fun e w' => e = .returned (.int .i64 (maxI a b)) ∧ w = w' := by
  by_cases h : b < a
  · have F : Hid (maxI a b = a) := by show maxI a b = a; unfold maxI; rw [if_pos h]
    go_enter Try.func59, Try.ntmps59
    go_wp2
    go_ret
    exact ⟨(ret_int F.out).symm, rfl⟩
  · have F : Hid (maxI a b = b) := by show maxI a b = b; unfold maxI; rw [if_neg h]
    go_enter Try.func59, Try.ntmps59
    go_wp2
    go_ret
    exact ⟨(ret_int F.out).symm, rfl⟩
theorem l05Gradient_any (A : Option Addr) (c : Nat) (ls : List Ly) (k : Nat) (hk1 : k + 1 < ls.length) (hk0 : k < ls.length) (w : World) (hr : RdL w A ls) (V : VL ls) :
    Calls Try.prog 83 #[.slice A ls.length c, .int .i64 k] w fun e w' => e = .returned (.int .i64 (gradF ls[k] ls[k + 1])) ∧ ∃ n, w' = w.drewN n := by
  have h16 := V.len
  obtain ⟨g, o, rfl, hat⟩ := hr.addr (by omega)
  have hx := hat k hk0
  have hy := hat (k + 1) hk1
  have bx := V.get k hk0
  have bY := V.get (k + 1) hk1
  obtain ⟨t0, t1⟩ := thick_bd bx
  obtain ⟨t2, t3⟩ := thick_bd bY
  obtain ⟨w0, w1⟩ := wayF_bd bx bY
  have F : Hid (rdiv ((ls[k + 1].deg - ls[k].deg) * 1000) (wayF ls[k] ls[k + 1]) = gradF ls[k] ls[k + 1]) := rfl
  have E : maxI 1 ((thick ls[k] + thick ls[k + 1]) / 2) = wayF ls[k] ls[k + 1] := rfl
  have cx := hx.c4
  have cy := hy.c4
  obtain ⟨d0, d1⟩ : -4000 ≤ ls[k].deg ∧ ls[k].deg ≤ 0 := ⟨bx.g0, bx.g1⟩
  obtain ⟨e0, e1⟩ : -4000 ≤ ls[k + 1].deg ∧ ls[k + 1].deg ≤ 0 := ⟨bY.g0, bY.g1⟩
  generalize ls[k + 1] = y at *
  generalize ls[k] = x at *
  generalize wayF x y = q at *
  go_enter Try.func83, Try.ntmps83
  go_wp2_with fail
  refine (l03Thick_any x _ _ _ bx hx).mono ?_
  rintro e w1 ⟨rfl, n1, rfl⟩
  go_wp2_with fail
  refine (l03Thick_any y _ _ _ bY (hy.drewN n1)).mono ?_
  rintro e w2 ⟨rfl, n2, rfl⟩
  go_wp2_with (go_at_call 59; refine (l00Max_any _ _ _).mono ?_; rintro e w' ⟨rfl, rfl⟩)
  go_quiet ((go_at_call 64; exact quiet_add_left (l01Div_any _ _ _ (by omega) (by omega) (by omega) (by omega) (by omega))))
  go_wp2_with fail
  go_ret
  exact ⟨ret_int F.out, _, World.drewN_drewN _ _ _⟩
set_option maxHeartbeats 4000000 in
theorem gradientOf_any (A : Option Addr) (c : Nat) (ls : List Ly) (k : Nat) (hk1 : k + 1 < ls.length) (hk0 : k < ls.length) (w : World) (hr : RdL w A ls) (V : VL ls) :
    Calls Try.prog 78 #[.slice A ls.length c, .int .i64 k] w fun e w' => e = .returned (.int .i64 (gradF ls[k] ls[k + 1])) ∧ Below w.heap.size w w' := by
  have h16 := V.len
  obtain ⟨g, o, rfl, hat⟩ := hr.addr (by omega)
  have hx := hat k hk0
  have hy := hat (k + 1) hk1
  have bx := V.get k hk0
  have bY := V.get (k + 1) hk1
  obtain ⟨t0, t1⟩ := thick_bd bx
  obtain ⟨t2, t3⟩ := thick_bd bY
  obtain ⟨w0, w1⟩ := wayF_bd bx bY
  have F : Hid (rdiv ((ls[k + 1].deg - ls[k].deg) * 1000) (wayF ls[k] ls[k + 1]) = gradF ls[k] ls[k + 1]) := rfl
  have E : maxI 1 ((thick ls[k] + thick ls[k + 1]) / 2) = wayF ls[k] ls[k + 1] := rfl
  obtain ⟨d0, d1⟩ : -4000 ≤ ls[k].deg ∧ ls[k].deg ≤ 0 := ⟨bx.g0, bx.g1⟩
  obtain ⟨e0, e1⟩ : -4000 ≤ ls[k + 1].deg ∧ ls[k + 1].deg ≤ 0 := ⟨bY.g0, bY.g1⟩
  have hg := hx.lt
  generalize ls[k + 1] = y at *
  generalize ls[k] = x at *
  generalize wayF x y = q at *
  obtain ⟨c0, c1, c2, c3, c4, c5, c6⟩ := hx
  obtain ⟨p0, p1, p2, p3, p4, p5, p6⟩ := hy
  go_enter Try.func78, Try.ntmps78
  go_upto_region 1 with fail
  go_cut [5, 6] (fun s5 s6 wx => ∃ p q : Nat, s5 = .pointer (some ⟨p, 0, none⟩) ∧ s6 = .pointer (some ⟨q, 0, none⟩) ∧ LyAt wx p 0 x ∧ LyAt wx q 0 y ∧ Below w.heap.size w wx)
  case first =>
    go_region
    all_goals
      go_wp2_with fail
      go_meet
      first
        | exact ⟨_, _, rfl, rfl, (boxes2 w 45 x y).1, (boxes2 w 45 x y).2, (bl_alloc (bl_alloc (Below.refl _ _) _) _).drew⟩
        | exact ⟨_, _, rfl, rfl, (boxes2 w 45 y x).2, (boxes2 w 45 y x).1, (bl_alloc (bl_alloc (Below.refl _ _) _) _).drew⟩
  case rest =>
    obtain ⟨p, q', rfl, rfl, hx, hy, hb⟩ := hcut
    clear c0 c1 c2 c3 c4 c5 c6 p0 p1 p2 p3 p4 p5 p6
    have hX := hx
    have hY := hy
    obtain ⟨c0, c1, c2, c3, c4, c5, c6⟩ := hx.box
    obtain ⟨p0, p1, p2, p3, p4, p5, p6⟩ := hy.box
    have hp := hX.lt
    have hq := hY.lt
    have r1 : IntKind.i64.wrap (1000 * IntKind.i64.wrap (y.deg - x.deg)) = (y.deg - x.deg) * 1000 := by rw [IntKind.wrap_i64, IntKind.wrap_i64]; omega
    have r2 : IntKind.i64.wrap (thick x + thick y) = thick x + thick y := by rw [IntKind.wrap_i64]; omega
    have r3 : (thick x + thick y).tdiv 2 = (thick x + thick y) / 2 := Int.tdiv_eq_ediv_of_nonneg (by omega)
    have r4 : IntKind.i64.wrap ((thick x + thick y) / 2) = (thick x + thick y) / 2 := by rw [IntKind.wrap_i64]; omega
    have HE := Lib.hid E
    clear E
    by_cases hm : (thick x + thick y) / 2 < 1
    · have HQ : Hid (q = 1) := by show q = 1; rw [← HE.out]; unfold maxI; rw [if_pos hm]
      go_wp2_with fail
      go_region_held3 (fun w' => w'.cell? ⟨p, 0, none⟩ = some (.int .i64 x.form) ∧ w'.cell? ⟨p, 1, none⟩ = some (.int .i64 x.ice) ∧ w'.cell? ⟨p, 2, none⟩ = some (.int .i64 x.water) ∧ w'.cell? ⟨p, 3, none⟩ = some (.int .i64 x.dens) ∧ w'.cell? ⟨p, 4, none⟩ = some (.int .i64 x.deg) ∧ w'.cell? ⟨p, 5, none⟩ = some (.int .i64 x.hard) ∧ w'.cell? ⟨p, 6, none⟩ = some (.int .i64 x.age) ∧ w'.cell? ⟨q', 0, none⟩ = some (.int .i64 y.form) ∧ w'.cell? ⟨q', 1, none⟩ = some (.int .i64 y.ice) ∧ w'.cell? ⟨q', 2, none⟩ = some (.int .i64 y.water) ∧ w'.cell? ⟨q', 3, none⟩ = some (.int .i64 y.dens) ∧ w'.cell? ⟨q', 4, none⟩ = some (.int .i64 y.deg) ∧ w'.cell? ⟨q', 5, none⟩ = some (.int .i64 y.hard) ∧ w'.cell? ⟨q', 6, none⟩ = some (.int .i64 y.age) ∧ Below wc.heap.size wc w') (first | exact S14_step hp hq (by assumption) hb1 | exact S14_step hp hq (by assumption) (bl_drewN (Below.refl _ _) _) | (refine S14_step hp hq ?_ (by assumption); refine ⟨?_, ?_, ?_, ?_, ?_, ?_, ?_, ?_, ?_, ?_, ?_, ?_, ?_, ?_, ?_⟩ <;> first | assumption | exact Below.refl _ _) | (refine ⟨?_, ?_, ?_, ?_, ?_, ?_, ?_, ?_, ?_, ?_, ?_, ?_, ?_, ?_, ?_⟩ <;> first | assumption | exact (Below.refl _ _).drew | exact Below.refl _ _ | exact bl_drewN (by assumption) _ | exact Below.drew (by assumption) | go_keep) | go_keep) (first | (go_at_call 84; refine (thickness_any _ _ (by assumption)).mono ?_; rintro e w1 ⟨rfl, hb1⟩) | (go_at_call 42; refine (divRound_any _ _ _ (by omega) (by omega) (by omega) (by omega) (by omega)).mono ?_; rintro e w' ⟨rfl, nd, rfl⟩))
      go_wp2_with fail
      go_ret
      exact ⟨ret_int (by rw [← F.out, HQ.out]), bl_trans hb (S14_bl (by assumption))⟩
    · have HQ : Hid (q = (thick x + thick y) / 2) := by show q = _; rw [← HE.out]; unfold maxI; rw [if_neg hm]
      go_wp2_with fail
      go_region_held3 (fun w' => w'.cell? ⟨p, 0, none⟩ = some (.int .i64 x.form) ∧ w'.cell? ⟨p, 1, none⟩ = some (.int .i64 x.ice) ∧ w'.cell? ⟨p, 2, none⟩ = some (.int .i64 x.water) ∧ w'.cell? ⟨p, 3, none⟩ = some (.int .i64 x.dens) ∧ w'.cell? ⟨p, 4, none⟩ = some (.int .i64 x.deg) ∧ w'.cell? ⟨p, 5, none⟩ = some (.int .i64 x.hard) ∧ w'.cell? ⟨p, 6, none⟩ = some (.int .i64 x.age) ∧ w'.cell? ⟨q', 0, none⟩ = some (.int .i64 y.form) ∧ w'.cell? ⟨q', 1, none⟩ = some (.int .i64 y.ice) ∧ w'.cell? ⟨q', 2, none⟩ = some (.int .i64 y.water) ∧ w'.cell? ⟨q', 3, none⟩ = some (.int .i64 y.dens) ∧ w'.cell? ⟨q', 4, none⟩ = some (.int .i64 y.deg) ∧ w'.cell? ⟨q', 5, none⟩ = some (.int .i64 y.hard) ∧ w'.cell? ⟨q', 6, none⟩ = some (.int .i64 y.age) ∧ Below wc.heap.size wc w') (first | exact S14_step hp hq (by assumption) hb1 | exact S14_step hp hq (by assumption) (bl_drewN (Below.refl _ _) _) | (refine S14_step hp hq ?_ (by assumption); refine ⟨?_, ?_, ?_, ?_, ?_, ?_, ?_, ?_, ?_, ?_, ?_, ?_, ?_, ?_, ?_⟩ <;> first | assumption | exact Below.refl _ _) | (refine ⟨?_, ?_, ?_, ?_, ?_, ?_, ?_, ?_, ?_, ?_, ?_, ?_, ?_, ?_, ?_⟩ <;> first | assumption | exact (Below.refl _ _).drew | exact Below.refl _ _ | exact bl_drewN (by assumption) _ | exact Below.drew (by assumption) | go_keep) | go_keep) (first | (go_at_call 84; refine (thickness_any _ _ (by assumption)).mono ?_; rintro e w1 ⟨rfl, hb1⟩) | (go_at_call 42; refine (divRound_any _ _ _ (by omega) (by omega) (by omega) (by omega) (by omega)).mono ?_; rintro e w' ⟨rfl, nd, rfl⟩))
      go_wp2_with fail
      go_ret
      exact ⟨ret_int (by rw [← F.out, HQ.out]), bl_trans hb (S14_bl (by assumption))⟩
end Go.Proofs.Ytnlikinckmoomaa
