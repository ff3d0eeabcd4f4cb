/- The gradient between two layers: the contracts of GradientOf and what it calls, on both sides. -/
import Derived.Test.YtfndcahjjlcnaaaHeight
import Derived.RegionTactic
import Derived.BigRegion
import Derived.Deep.RegionHeld3
import Derived.Deep.DeepCutAuto
namespace Go.Proofs.Ytfndcahjjlcnaaa
open Go.ChangeShapes Go.WideShapes Go.ChangeAt Go.RowKit Go.Joins Go.Deep
set_option linter.unusedVariables false
def maxI (a b : Int) : Int := if b < a then a else b
def wayF (x y : Ly) : Int := maxI 1 ((thick x + thick y) / 2)
def gradF (x y : Ly) : Int := rdiv ((y.deg - x.deg) * 1000) (wayF x y)
theorem wayF_bd {x y : Ly} (hx : LyB x) (hy : LyB y) : 1 ≤ wayF x y ∧ wayF x y ≤ 1000000 := by
  have := thick_bd hx
  have := thick_bd hy
  unfold wayF maxI
  split <;> omega
theorem gradF_bd {x y : Ly} (hx : LyB x) (hy : LyB y) : -4000001 ≤ gradF x y ∧ gradF x y ≤ 4000001 := by
  obtain ⟨w0, w1⟩ := wayF_bd hx hy
  have d0 := hx.g0
  have d1 := hx.g1
  have e0 := hy.g0
  have e1 := hy.g1
  unfold gradF
  generalize wayF x y = b at *
  have hd : -4000000 ≤ (y.deg - x.deg) * 1000 ∧ (y.deg - x.deg) * 1000 ≤ 4000000 := by omega
  generalize (y.deg - x.deg) * 1000 = a at *
  unfold rdiv rdivP
  rw [if_neg (by omega)]
  split
  · have h1 : 0 ≤ (b - 2 * a) / (2 * b) := Int.ediv_nonneg (by omega) (by omega)
    have h2 : (b - 2 * a) / (2 * b) ≤ 4000001 := by
      refine Int.le_trans (Int.ediv_le_ediv (c := 2 * b) (by omega) (show b - 2 * a ≤ 4000001 * (2 * b) by omega)) ?_
      rw [Int.mul_ediv_cancel _ (by omega)]; exact Int.le_refl _
    omega
  · have h1 : 0 ≤ (2 * a + b) / (2 * b) := Int.ediv_nonneg (by omega) (by omega)
    have h2 : (2 * a + b) / (2 * b) ≤ 4000001 := by
      refine Int.le_trans (Int.ediv_le_ediv (c := 2 * b) (by omega) (show 2 * a + b ≤ 4000001 * (2 * b) by omega)) ?_
      rw [Int.mul_ediv_cancel _ (by omega)]; exact Int.le_refl _
    omega
theorem boxes2 (w : World) (t : TypeId) (x y : Ly) : LyAt ((w.alloc (.cells #[.int .i64 x.form, .int .i64 x.ice, .int .i64 x.water, .int .i64 x.dens, .int .i64 x.deg, .int .i64 x.hard, .int .i64 x.age] t)).alloc (.cells #[.int .i64 y.form, .int .i64 y.ice, .int .i64 y.water, .int .i64 y.dens, .int .i64 y.deg, .int .i64 y.hard, .int .i64 y.age] t)).drew w.heap.size 0 x ∧
    LyAt ((w.alloc (.cells #[.int .i64 x.form, .int .i64 x.ice, .int .i64 x.water, .int .i64 x.dens, .int .i64 x.deg, .int .i64 x.hard, .int .i64 x.age] t)).alloc (.cells #[.int .i64 y.form, .int .i64 y.ice, .int .i64 y.water, .int .i64 y.dens, .int .i64 y.deg, .int .i64 y.hard, .int .i64 y.age] t)).drew (w.heap.size + 1) 0 y := by
  refine ⟨(LyAt.new w t x).of_block (Below.heap_alloc _ _ _ (by simp)), ?_⟩
  have := LyAt.new (w.alloc (.cells #[.int .i64 x.form, .int .i64 x.ice, .int .i64 x.water, .int .i64 x.dens, .int .i64 x.deg, .int .i64 x.hard, .int .i64 x.age] t)) t y
  rw [show (w.alloc (.cells #[.int .i64 x.form, .int .i64 x.ice, .int .i64 x.water, .int .i64 x.dens, .int .i64 x.deg, .int .i64 x.hard, .int .i64 x.age] t)).heap.size = w.heap.size + 1 from by simp] at this
  exact this.of_block rfl
theorem S14_step {w a b : World} {p q : Nat} {x y : Ly} (hp : p < w.heap.size) (hq : q < w.heap.size) (h : a.cell? ⟨p, 0, none⟩ = some (.int .i64 x.form) ∧ a.cell? ⟨p, 1, none⟩ = some (.int .i64 x.ice) ∧ a.cell? ⟨p, 2, none⟩ = some (.int .i64 x.water) ∧ a.cell? ⟨p, 3, none⟩ = some (.int .i64 x.dens) ∧ a.cell? ⟨p, 4, none⟩ = some (.int .i64 x.deg) ∧ a.cell? ⟨p, 5, none⟩ = some (.int .i64 x.hard) ∧ a.cell? ⟨p, 6, none⟩ = some (.int .i64 x.age) ∧ a.cell? ⟨q, 0, none⟩ = some (.int .i64 y.form) ∧ a.cell? ⟨q, 1, none⟩ = some (.int .i64 y.ice) ∧ a.cell? ⟨q, 2, none⟩ = some (.int .i64 y.water) ∧ a.cell? ⟨q, 3, none⟩ = some (.int .i64 y.dens) ∧ a.cell? ⟨q, 4, none⟩ = some (.int .i64 y.deg) ∧ a.cell? ⟨q, 5, none⟩ = some (.int .i64 y.hard) ∧ a.cell? ⟨q, 6, none⟩ = some (.int .i64 y.age) ∧ Below w.heap.size w a) (hb : Below a.heap.size a b) :
    b.cell? ⟨p, 0, none⟩ = some (.int .i64 x.form) ∧ b.cell? ⟨p, 1, none⟩ = some (.int .i64 x.ice) ∧ b.cell? ⟨p, 2, none⟩ = some (.int .i64 x.water) ∧ b.cell? ⟨p, 3, none⟩ = some (.int .i64 x.dens) ∧ b.cell? ⟨p, 4, none⟩ = some (.int .i64 x.deg) ∧ b.cell? ⟨p, 5, none⟩ = some (.int .i64 x.hard) ∧ b.cell? ⟨p, 6, none⟩ = some (.int .i64 x.age) ∧ b.cell? ⟨q, 0, none⟩ = some (.int .i64 y.form) ∧ b.cell? ⟨q, 1, none⟩ = some (.int .i64 y.ice) ∧ b.cell? ⟨q, 2, none⟩ = some (.int .i64 y.water) ∧ b.cell? ⟨q, 3, none⟩ = some (.int .i64 y.dens) ∧ b.cell? ⟨q, 4, none⟩ = some (.int .i64 y.deg) ∧ b.cell? ⟨q, 5, none⟩ = some (.int .i64 y.hard) ∧ b.cell? ⟨q, 6, none⟩ = some (.int .i64 y.age) ∧ Below w.heap.size w b := by
  obtain ⟨c0, c1, c2, c3, c4, c5, c6, d0, d1, d2, d3, d4, d5, d6, hB⟩ := h
  have hp2 : p < a.heap.size := Nat.lt_of_lt_of_le hp hB.size
  have hq2 : q < a.heap.size := Nat.lt_of_lt_of_le hq hB.size
  exact ⟨(hb.cell (p := ⟨p, _, none⟩) hp2).trans c0, (hb.cell (p := ⟨p, _, none⟩) hp2).trans c1, (hb.cell (p := ⟨p, _, none⟩) hp2).trans c2, (hb.cell (p := ⟨p, _, none⟩) hp2).trans c3, (hb.cell (p := ⟨p, _, none⟩) hp2).trans c4, (hb.cell (p := ⟨p, _, none⟩) hp2).trans c5, (hb.cell (p := ⟨p, _, none⟩) hp2).trans c6,
    (hb.cell (p := ⟨q, _, none⟩) hq2).trans d0, (hb.cell (p := ⟨q, _, none⟩) hq2).trans d1, (hb.cell (p := ⟨q, _, none⟩) hq2).trans d2, (hb.cell (p := ⟨q, _, none⟩) hq2).trans d3, (hb.cell (p := ⟨q, _, none⟩) hq2).trans d4, (hb.cell (p := ⟨q, _, none⟩) hq2).trans d5, (hb.cell (p := ⟨q, _, none⟩) hq2).trans d6, bl_trans hB hb⟩
theorem S14_bl {w a : World} {p q : Nat} {x y : Ly} (h : a.cell? ⟨p, 0, none⟩ = some (.int .i64 x.form) ∧ a.cell? ⟨p, 1, none⟩ = some (.int .i64 x.ice) ∧ a.cell? ⟨p, 2, none⟩ = some (.int .i64 x.water) ∧ a.cell? ⟨p, 3, none⟩ = some (.int .i64 x.dens) ∧ a.cell? ⟨p, 4, none⟩ = some (.int .i64 x.deg) ∧ a.cell? ⟨p, 5, none⟩ = some (.int .i64 x.hard) ∧ a.cell? ⟨p, 6, none⟩ = some (.int .i64 x.age) ∧ a.cell? ⟨q, 0, none⟩ = some (.int .i64 y.form) ∧ a.cell? ⟨q, 1, none⟩ = some (.int .i64 y.ice) ∧ a.cell? ⟨q, 2, none⟩ = some (.int .i64 y.water) ∧ a.cell? ⟨q, 3, none⟩ = some (.int .i64 y.dens) ∧ a.cell? ⟨q, 4, none⟩ = some (.int .i64 y.deg) ∧ a.cell? ⟨q, 5, none⟩ = some (.int .i64 y.hard) ∧ a.cell? ⟨q, 6, none⟩ = some (.int .i64 y.age) ∧ Below w.heap.size w a) : Below w.heap.size w a := by
  obtain ⟨_, _, _, _, _, _, _, _, _, _, _, _, _, _, h⟩ := h
  exact h
theorem quiet_add_left {P : Program} {f : FuncId} {args : Array Value} {w : World} {a n : Nat} {v : Value}
    (h : Calls P f args (w.drewN (a + n)) fun e w' => e = .returned v ∧ w.drewN (a + n) = w') :
    Calls P f args (w.drewN (a + n)) fun e w'' => e = .returned v ∧ ∃ m, w'' = w.drewN (a + m) :=
  h.mono fun _ _ ⟨he, hm⟩ => ⟨he, n, hm.symm⟩
theorem l00Max_any (a b : Int) (w : World) : Calls Try.prog 59 #[.int .i64 a, .int .i64 b] w fun e w' => e = .returned (.int .i64 (maxI a b)) ∧ w = w' := by
  by_cases h : b < a
  · have F : Hid (maxI a b = a) := by show maxI a b = a; unfold maxI; rw [if_pos h]
    go_enter Try.func59, Try.ntmps59
    go_wp2
    go_ret
    exact ⟨(ret_int F.out).symm, rfl⟩
  · have F : Hid (maxI a b = b) := by show maxI a b = b; unfold maxI; rw [if_neg h]
    go_enter Try.func59, Try.ntmps59
    go_wp2
    go_ret
    exact ⟨(ret_int F.out).symm, rfl⟩
theorem l05Gradient_any (A : Option Addr) (c : Nat) (ls : List Ly) (k : Nat) (hk1 : k + 1 < ls.length) (hk0 : k < ls.length) (w : World) (hr : RdL w A ls) (V : VL ls) :
    Calls Try.prog 36 #[.slice A ls.length c, .int .i64 k] w fun e w' => e = .returned (.int .i64 (gradF ls[k] ls[k + 1])) ∧ ∃ n, w' = w.drewN n := by
  have h16 := V.len
  obtain ⟨g, o, rfl, hat⟩ := hr.addr (by omega)
  have hx := hat k hk0
  have hy := hat (k + 1) hk1
  have bx := V.get k hk0
  have bY := V.get (k + 1) hk1
  obtain ⟨t0, t1⟩ := thick_bd bx
  obtain ⟨t2, t3⟩ := thick_bd bY
  obtain ⟨w0, w1⟩ := wayF_bd bx bY
  have F : Hid (rdiv ((ls[k + 1].deg - ls[k].deg) * 1000) (wayF ls[k] ls[k + 1]) = gradF ls[k] ls[k + 1]) := rfl
  have E : maxI 1 ((thick ls[k] + thick ls[k + 1]) / 2) = wayF ls[k] ls[k + 1] := rfl
  have cx := hx.c4
  have cy := hy.c4
  obtain ⟨d0, d1⟩ : -4000 ≤ ls[k].deg ∧ ls[k].deg ≤ 0 := ⟨bx.g0, bx.g1⟩
  obtain ⟨e0, e1⟩ : -4000 ≤ ls[k + 1].deg ∧ ls[k + 1].deg ≤ 0 := ⟨bY.g0, bY.g1⟩
  generalize ls[k + 1] = y at *
  generalize ls[k] = x at *
  generalize wayF x y = q at *
  go_enter Try.func36, Try.ntmps36
  go_wp2_with fail
  refine (l03Thick_any x _ _ _ bx hx).mono ?_
  rintro e w1 ⟨rfl, n1, rfl⟩
  go_wp2_with fail
  refine (l03Thick_any y _ _ _ bY (hy.drewN n1)).mono ?_
  rintro e w2 ⟨rfl, n2, rfl⟩
  go_wp2_with (go_at_call 59; refine (l00Max_any _ _ _).mono ?_; rintro e w' ⟨rfl, rfl⟩)
  go_quiet ((go_at_call 60; exact quiet_add_left (l01Div_any _ _ _ (by omega) (by omega) (by omega) (by omega) (by omega))))
  go_wp2_with fail
  go_ret
  exact ⟨ret_int F.out, _, World.drewN_drewN _ _ _⟩
set_option maxHeartbeats 4000000 in
theorem gradientOf_any (A : Option Addr) (c : Nat) (ls : List Ly) (k : Nat) (hk1 : k + 1 < ls.length) (hk0 : k < ls.length) (w : World) (hr : RdL w A ls) (V : VL ls) :
    Calls Try.prog 38 #[.slice A ls.length c, .int .i64 k] w fun e w' => e = .returned (.int .i64 (gradF ls[k] ls[k + 1])) ∧ Below w.heap.size w w' := by
  have h16 := V.len
  obtain ⟨g, o, rfl, hat⟩ := hr.addr (by omega)
  have hx := hat k hk0
  have hy := hat (k + 1) hk1
  have bx := V.get k hk0
  have bY := V.get (k + 1) hk1
  obtain ⟨t0, t1⟩ := thick_bd bx
  obtain ⟨t2, t3⟩ := thick_bd bY
  obtain ⟨w0, w1⟩ := wayF_bd bx bY
  have F : Hid (rdiv ((ls[k + 1].deg - ls[k].deg) * 1000) (wayF ls[k] ls[k + 1]) = gradF ls[k] ls[k + 1]) := rfl
  have E : maxI 1 ((thick ls[k] + thick ls[k + 1]) / 2) = wayF ls[k] ls[k + 1] := rfl
  obtain ⟨d0, d1⟩ : -4000 ≤ ls[k].deg ∧ ls[k].deg ≤ 0 := ⟨bx.g0, bx.g1⟩
  obtain ⟨e0, e1⟩ : -4000 ≤ ls[k + 1].deg ∧ ls[k + 1].deg ≤ 0 := ⟨bY.g0, bY.g1⟩
  have hg := hx.lt
  generalize ls[k + 1] = y at *
  generalize ls[k] = x at *
  generalize wayF x y = q at *
  obtain ⟨c0, c1, c2, c3, c4, c5, c6⟩ := hx
  obtain ⟨p0, p1, p2, p3, p4, p5, p6⟩ := hy
  go_enter Try.func38, Try.ntmps38
  go_upto_region 1 with fail
  go_cut [5, 6] (fun s5 s6 wx => ∃ p q : Nat, s5 = .pointer (some ⟨p, 0, none⟩) ∧ s6 = .pointer (some ⟨q, 0, none⟩) ∧ LyAt wx p 0 x ∧ LyAt wx q 0 y ∧ Below w.heap.size w wx)
  case first =>
    go_region
    all_goals
      go_wp2_with fail
      go_meet
      first
        | exact ⟨_, _, rfl, rfl, (boxes2 w 41 x y).1, (boxes2 w 41 x y).2, (bl_alloc (bl_alloc (Below.refl _ _) _) _).drew⟩
        | exact ⟨_, _, rfl, rfl, (boxes2 w 41 y x).2, (boxes2 w 41 y x).1, (bl_alloc (bl_alloc (Below.refl _ _) _) _).drew⟩
  case rest =>
    obtain ⟨p, q', rfl, rfl, hx, hy, hb⟩ := hcut
    clear c0 c1 c2 c3 c4 c5 c6 p0 p1 p2 p3 p4 p5 p6
    have hX := hx
    have hY := hy
    obtain ⟨c0, c1, c2, c3, c4, c5, c6⟩ := hx.box
    obtain ⟨p0, p1, p2, p3, p4, p5, p6⟩ := hy.box
    have hp := hX.lt
    have hq := hY.lt
    have r1 : IntKind.i64.wrap (1000 * IntKind.i64.wrap (y.deg - x.deg)) = (y.deg - x.deg) * 1000 := by rw [IntKind.wrap_i64, IntKind.wrap_i64]; omega
    have r2 : IntKind.i64.wrap (thick x + thick y) = thick x + thick y := by rw [IntKind.wrap_i64]; omega
    have r3 : (thick x + thick y).tdiv 2 = (thick x + thick y) / 2 := Int.tdiv_eq_ediv_of_nonneg (by omega)
    have r4 : IntKind.i64.wrap ((thick x + thick y) / 2) = (thick x + thick y) / 2 := by rw [IntKind.wrap_i64]; omega
    have HE := Lib.hid E
    clear E
    by_cases hm : (thick x + thick y) / 2 < 1
    · have HQ : Hid (q = 1) := by show q = 1; rw [← HE.out]; unfold maxI; rw [if_pos hm]
      go_wp2_with fail
      go_region_held3 (fun w' => w'.cell? ⟨p, 0, none⟩ = some (.int .i64 x.form) ∧ w'.cell? ⟨p, 1, none⟩ = some (.int .i64 x.ice) ∧ w'.cell? ⟨p, 2, none⟩ = some (.int .i64 x.water) ∧ w'.cell? ⟨p, 3, none⟩ = some (.int .i64 x.dens) ∧ w'.cell? ⟨p, 4, none⟩ = some (.int .i64 x.deg) ∧ w'.cell? ⟨p, 5, none⟩ = some (.int .i64 x.hard) ∧ w'.cell? ⟨p, 6, none⟩ = some (.int .i64 x.age) ∧ w'.cell? ⟨q', 0, none⟩ = some (.int .i64 y.form) ∧ w'.cell? ⟨q', 1, none⟩ = some (.int .i64 y.ice) ∧ w'.cell? ⟨q', 2, none⟩ = some (.int .i64 y.water) ∧ w'.cell? ⟨q', 3, none⟩ = some (.int .i64 y.dens) ∧ w'.cell? ⟨q', 4, none⟩ = some (.int .i64 y.deg) ∧ w'.cell? ⟨q', 5, none⟩ = some (.int .i64 y.hard) ∧ w'.cell? ⟨q', 6, none⟩ = some (.int .i64 y.age) ∧ Below wc.heap.size wc w') (first | exact S14_step hp hq (by assumption) hb1 | exact S14_step hp hq (by assumption) (bl_drewN (Below.refl _ _) _) | (refine S14_step hp hq ?_ (by assumption); refine ⟨?_, ?_, ?_, ?_, ?_, ?_, ?_, ?_, ?_, ?_, ?_, ?_, ?_, ?_, ?_⟩ <;> first | assumption | exact Below.refl _ _) | (refine ⟨?_, ?_, ?_, ?_, ?_, ?_, ?_, ?_, ?_, ?_, ?_, ?_, ?_, ?_, ?_⟩ <;> first | assumption | exact (Below.refl _ _).drew | exact Below.refl _ _ | exact bl_drewN (by assumption) _ | exact Below.drew (by assumption) | go_keep) | go_keep) (first | (go_at_call 40; refine (thickness_any _ _ (by assumption)).mono ?_; rintro e w1 ⟨rfl, hb1⟩) | (go_at_call 61; refine (divRound_any _ _ _ (by omega) (by omega) (by omega) (by omega) (by omega)).mono ?_; rintro e w' ⟨rfl, nd, rfl⟩))
      go_wp2_with fail
      go_ret
      exact ⟨ret_int (by rw [← F.out, HQ.out]), bl_trans hb (S14_bl (by assumption))⟩
    · have HQ : Hid (q = (thick x + thick y) / 2) := by show q = _; rw [← HE.out]; unfold maxI; rw [if_neg hm]
      go_wp2_with fail
      go_region_held3 (fun w' => w'.cell? ⟨p, 0, none⟩ = some (.int .i64 x.form) ∧ w'.cell? ⟨p, 1, none⟩ = some (.int .i64 x.ice) ∧ w'.cell? ⟨p, 2, none⟩ = some (.int .i64 x.water) ∧ w'.cell? ⟨p, 3, none⟩ = some (.int .i64 x.dens) ∧ w'.cell? ⟨p, 4, none⟩ = some (.int .i64 x.deg) ∧ w'.cell? ⟨p, 5, none⟩ = some (.int .i64 x.hard) ∧ w'.cell? ⟨p, 6, none⟩ = some (.int .i64 x.age) ∧ w'.cell? ⟨q', 0, none⟩ = some (.int .i64 y.form) ∧ w'.cell? ⟨q', 1, none⟩ = some (.int .i64 y.ice) ∧ w'.cell? ⟨q', 2, none⟩ = some (.int .i64 y.water) ∧ w'.cell? ⟨q', 3, none⟩ = some (.int .i64 y.dens) ∧ w'.cell? ⟨q', 4, none⟩ = some (.int .i64 y.deg) ∧ w'.cell? ⟨q', 5, none⟩ = some (.int .i64 y.hard) ∧ w'.cell? ⟨q', 6, none⟩ = some (.int .i64 y.age) ∧ Below wc.heap.size wc w') (first | exact S14_step hp hq (by assumption) hb1 | exact S14_step hp hq (by assumption) (bl_drewN (Below.refl _ _) _) | (refine S14_step hp hq ?_ (by assumption); refine ⟨?_, ?_, ?_, ?_, ?_, ?_, ?_, ?_, ?_, ?_, ?_, ?_, ?_, ?_, ?_⟩ <;> first | assumption | exact Below.refl _ _) | (refine ⟨?_, ?_, ?_, ?_, ?_, ?_, ?_, ?_, ?_, ?_, ?_, ?_, ?_, ?_, ?_⟩ <;> first | assumption | exact (Below.refl _ _).drew | exact Below.refl _ _ | exact bl_drewN (by assumption) _ | exact Below.drew (by assumption) | go_keep) | go_keep) (first | (go_at_call 40; refine (thickness_any _ _ (by assumption)).mono ?_; rintro e w1 ⟨rfl, hb1⟩) | (go_at_call 61; refine (divRound_any _ _ _ (by omega) (by omega) (by omega) (by omega) (by omega)).mono ?_; rintro e w' ⟨rfl, nd, rfl⟩))
      go_wp2_with fail
      go_ret
      exact ⟨ret_int (by rw [← F.out, HQ.out]), bl_trans hb (S14_bl (by assumption))⟩
def gradC (ls : List Ly) (k : Int) : Int := if okL ls then (if inB k 0 ((ls.length : Int) - 2) then 0 else 2) else 1
def gradV (ls : List Ly) (k : Int) : Int := if h : okL ls = true ∧ 0 ≤ k ∧ k.toNat + 1 < ls.length then gradF (ls[k.toNat]'(by omega)) (ls[k.toNat + 1]'(by omega)) else 0
theorem grad_1 {ls : List Ly} (h : okL ls = false) (k : Int) : gradV ls k = 0 ∧ gradC ls k = 1 := ⟨dif_neg (fun e => by rw [h] at e; exact absurd e.1 (by decide)), by unfold gradC; rw [h]; rfl⟩
theorem grad_2 {ls : List Ly} {k : Int} (h : okL ls = true) (h2 : inB k 0 ((ls.length : Int) - 2) = false) : gradV ls k = 0 ∧ gradC ls k = 2 := by
  have := inB_no h2
  exact ⟨dif_neg (fun e => by omega), by unfold gradC; rw [h, h2]; rfl⟩
theorem grad_0 {ls : List Ly} {k : Nat} (h : okL ls = true) (h2 : inB (k : Int) 0 ((ls.length : Int) - 2) = true) (h3 : k + 1 < ls.length) (h4 : k < ls.length) : gradV ls k = gradF ls[k] ls[k + 1] ∧ gradC ls k = 0 := by
  have := inB_yes h2
  exact ⟨(dif_pos ⟨h, by omega, by omega⟩).trans (by simp only [Int.toNat_natCast]), by unfold gradC; rw [h, h2]; rfl⟩
theorem specGrad_any (A : Option Addr) (c : Nat) (ls : List Ly) (k : Int) (w : World) (hr : RdL w A ls) (hn : ls.length ≤ 1048576) (hc : ls.length ≤ c) :
    Calls Try.prog 15 #[.slice A ls.length c, .int .i64 k] w fun e w' => e = .returned (.tuple #[.int .i64 (gradV ls k), .int .i64 (gradC ls k)]) ∧ Below w.heap.size w w' := by
  rcases hok : okL ls with _ | _
  · have F := Lib.hid (grad_1 hok k)
    go_enter Try.func15, Try.ntmps15
    go_wp2_with (go_at_call 30; refine (l03Ok_any A c ls _ hr hn).mono ?_; rintro e w' ⟨rfl, rfl⟩)
    go_ret2
    exact ⟨(ret2i F.out.1 F.out.2).symm, Below.refl _ _⟩
  · rcases hin : inB k 0 ((ls.length : Int) - 2) with _ | _
    · have F := Lib.hid (grad_2 hok hin)
      go_enter Try.func15, Try.ntmps15
      go_wp2_with (first | (go_at_call 30; refine (l03Ok_any A c ls _ hr hn).mono ?_; rintro e w' ⟨rfl, rfl⟩) | (go_at_call 35; refine (l00In_any _ _ _ _).mono ?_; rintro e w' ⟨rfl, rfl⟩))
      go_ret2
      exact ⟨(ret2i F.out.1 F.out.2).symm, Below.refl _ _⟩
    · obtain ⟨k0, k1⟩ := inB_yes hin
      obtain ⟨m, rfl⟩ := Int.eq_ofNat_of_zero_le k0
      have hm1 : m + 1 < ls.length := by omega
      have hm0 : m < ls.length := by omega
      have F := Lib.hid (grad_0 hok hin hm1 hm0)
      have V := VL.of_ok hok
      go_enter Try.func15, Try.ntmps15
      go_wp2_with (first | (go_at_call 30; refine (l03Ok_any A c ls _ hr hn).mono ?_; rintro e w' ⟨rfl, rfl⟩) | (go_at_call 35; refine (l00In_any _ _ _ _).mono ?_; rintro e w' ⟨rfl, rfl⟩) | (go_at_call 36; refine (l05Gradient_any A c ls m hm1 hm0 _ hr V).mono ?_; rintro e w1 ⟨rfl, nd, rfl⟩))
      go_ret2
      exact ⟨(ret2i F.out.1 F.out.2).symm, bl_drewN (Below.refl _ _) _⟩
theorem implGrad_any (A : Option Addr) (c : Nat) (ls : List Ly) (k : Int) (w : World) (hr : RdL w A ls) (hn : ls.length ≤ 1048576) (hc : ls.length ≤ c) :
    Calls Try.prog 16 #[.slice A ls.length c, .int .i64 k] w fun e w' => e = .returned (.tuple #[.int .i64 (gradV ls k), .int .i64 (gradC ls k)]) ∧ Below w.heap.size w w' := by
  rcases hok : okL ls with _ | _
  · have F := Lib.hid (grad_1 hok k)
    go_enter Try.func16, Try.ntmps16
    go_wp2_with (go_at_call 32; refine (validProfile_any A c ls _ hr hn).mono ?_; rintro e w1 ⟨rfl, hb1⟩)
    go_ret2
    exact ⟨(ret2i F.out.1 F.out.2).symm, hb1⟩
  · rcases hin : inB k 0 ((ls.length : Int) - 2) with _ | _
    · have F := Lib.hid (grad_2 hok hin)
      go_enter Try.func16, Try.ntmps16
      go_wp2_with (first | (go_at_call 32; refine (validProfile_any A c ls _ hr hn).mono ?_; rintro e w1 ⟨rfl, hb1⟩) | (go_at_call 37; refine (within_any _ _ _ _).mono ?_; rintro e w' ⟨rfl, rfl⟩))
      go_ret2
      exact ⟨(ret2i F.out.1 F.out.2).symm, hb1⟩
    · obtain ⟨k0, k1⟩ := inB_yes hin
      obtain ⟨m, rfl⟩ := Int.eq_ofNat_of_zero_le k0
      have hm1 : m + 1 < ls.length := by omega
      have hm0 : m < ls.length := by omega
      have F := Lib.hid (grad_0 hok hin hm1 hm0)
      have V := VL.of_ok hok
      go_enter Try.func16, Try.ntmps16
      go_wp2_with (first | (go_at_call 32; refine (validProfile_any A c ls _ hr hn).mono ?_; rintro e w1 ⟨rfl, hb1⟩) | (go_at_call 37; refine (within_any _ _ _ _).mono ?_; rintro e w' ⟨rfl, rfl⟩) | (go_at_call 38; refine (gradientOf_any A c ls m hm1 hm0 _ (hr.below hb1) V).mono ?_; rintro e w2 ⟨rfl, hb2⟩))
      go_ret2
      exact ⟨(ret2i F.out.1 F.out.2).symm, bl_trans hb1 hb2⟩
end Go.Proofs.Ytfndcahjjlcnaaa
