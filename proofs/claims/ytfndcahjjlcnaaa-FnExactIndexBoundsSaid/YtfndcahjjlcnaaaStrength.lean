/- The bounds of a layer's strength: the contracts of the program's and of the reference's functions. -/
import Derived.Test.YtfndcahjjlcnaaaLyF
import Derived.Test.YtfndcahjjlcnaaaSum
import Derived.Deep.RegionHeld3
namespace Go.Proofs.Ytfndcahjjlcnaaa
open Go.ChangeShapes Go.WideShapes Go.ChangeAt Go.RowKit Go.Joins Go.Deep
set_option linter.unusedVariables false
def facF (f : Int) : Int := if f = 1 then 20 else if f = 2 then 22 else if f = 3 then 30 else if f = 4 then 12 else if f = 5 then 8 else 35
theorem facF_bd (f : Int) : 8 ≤ facF f ∧ facF f ≤ 35 := by unfold facF; (repeat' split) <;> omega
def baseF (x : Ly) : Int := rdiv (x.dens * x.dens * facF x.form) 1000
def lowF (x : Ly) (d : Int) : Int := baseF x * (1000 - d) / 1000
def highF (x : Ly) (d : Int) : Int := (baseF x * (1000 + d) + 999) / 1000
theorem dd_bd {x : Ly} (h : LyB x) : 0 ≤ x.dens * x.dens ∧ x.dens * x.dens ≤ 810000 := by
  have := h.d0
  have := h.d1
  exact ⟨Int.mul_nonneg (by omega) (by omega), by have h3 : x.dens * x.dens ≤ 900 * 900 := Int.mul_le_mul (by omega) (by omega) (by omega) (by omega); exact h3⟩
theorem ddf_bd {x : Ly} (h : LyB x) : 0 ≤ x.dens * x.dens * facF x.form ∧ x.dens * x.dens * facF x.form ≤ 28350000 := by
  obtain ⟨a, b⟩ := dd_bd h
  obtain ⟨c, d⟩ := facF_bd x.form
  exact ⟨Int.mul_nonneg a (by omega), by have h3 : x.dens * x.dens * facF x.form ≤ 810000 * 35 := Int.mul_le_mul b d (by omega) (by omega); exact h3⟩
theorem baseF_bd {x : Ly} (h : LyB x) : 0 ≤ baseF x ∧ baseF x ≤ 28351 := by
  obtain ⟨a, b⟩ := ddf_bd h
  have e : baseF x = (2 * (x.dens * x.dens * facF x.form) + 1000) / (2 * 1000) := by unfold baseF rdiv; rw [if_neg (by omega), rdivP_pos _ _ a]
  rw [e]
  omega
theorem bm_bd {x : Ly} (h : LyB x) (d : Int) (h0 : 0 ≤ d) (h1 : d ≤ 1000) : 0 ≤ baseF x * (1000 - d) ∧ baseF x * (1000 - d) ≤ 28351000 ∧ 0 ≤ baseF x * (1000 + d) ∧ baseF x * (1000 + d) ≤ 56702000 := by
  obtain ⟨a, b⟩ := baseF_bd h
  have e1 : 0 ≤ baseF x * (1000 - d) := Int.mul_nonneg a (by omega)
  have e2 : baseF x * (1000 - d) ≤ 28351 * 1000 := Int.mul_le_mul b (by omega) (by omega) (by omega)
  have e3 : 0 ≤ baseF x * (1000 + d) := Int.mul_nonneg a (by omega)
  have e4 : baseF x * (1000 + d) ≤ 28351 * 2000 := Int.mul_le_mul b (by omega) (by omega) (by omega)
  omega
theorem f_parts {f : Int} (h0 : 1 ≤ f) (h1 : f ≤ 6) : f = 1 ∨ f = 2 ∨ f = 3 ∨ f = 4 ∨ f = 5 ∨ f = 6 := by omega
theorem idxFac (f : Int) (h0 : 1 ≤ f) (h1 : f ≤ 6) (w : World) : (Instr.index 75 (.agg #[.int .i64 0, .int .i64 20, .int .i64 22, .int .i64 30, .int .i64 12, .int .i64 8, .int .i64 35]) (.int .i64 f)).run Try.prog w = .ok (.int .i64 (facF f)) w := by
  rw [index_arr Try.underlying75 (by kernel_rfl) (by kernel_rfl) _ _ _ rfl (by omega) (by omega)]
  rcases f_parts h0 h1 with rfl | rfl | rfl | rfl | rfl | rfl <;> rfl
theorem strength_any (x : Ly) (d : Int) (w : World) (hx : LyB x) (h0 : 0 ≤ d) (h1 : d ≤ 1000) : Calls Try.prog 65 #[.agg #[.int .i64 x.form, .int .i64 x.ice, .int .i64 x.water, .int .i64 x.dens, .int .i64 x.deg, .int .i64 x.hard, .int .i64 x.age], .int .i64 d] w fun e w' => e = .returned (.tuple #[.int .i64 (lowF x d), .int .i64 (highF x d)]) ∧ Below w.heap.size w w' := by
  obtain ⟨a0, a1⟩ := dd_bd hx
  obtain ⟨b0, b1⟩ := ddf_bd hx
  obtain ⟨n0, n1⟩ := baseF_bd hx
  obtain ⟨m0, m1, m2, m3⟩ := bm_bd hx d h0 h1
  have hi := idxFac x.form hx.f0 hx.f1
  have F1 : Hid (baseF x * (1000 - d) / 1000 = lowF x d) := rfl
  have F2 : Hid ((baseF x * (1000 + d) + 1000 - 1) / 1000 = highF x d) := by show _ = _; unfold highF; omega
  have hn : rdiv (x.dens * x.dens * facF x.form) 1000 = baseF x := rfl
  generalize baseF x = n at *
  go_enter Try.func65, Try.ntmps65
  go_wp2_with (first | (go_at_call 61; refine (divRound_any _ _ _ (by omega) (by omega) (by omega) (by omega) (by omega)).mono ?_; rintro e w' ⟨rfl, nd, rfl⟩) | (go_at_call 66; refine (divUp_any _ _ _ (by omega) (by omega) (by omega) (by omega)).mono ?_; rintro e w' ⟨rfl, rfl⟩))
  go_ret2
  exact ⟨ret2i F1.out F2.out, by repeat (first | exact Below.refl _ _ | apply bl_alloc | apply bl_drewN)⟩
theorem S_step {w a b : World} {g o : Nat} {f d : Value} (hg : g < w.heap.size) (h : a.cell? ⟨g, o, none⟩ = some f ∧ a.cell? ⟨g, o + 3, none⟩ = some d ∧ Below w.heap.size w a) (hb : Below a.heap.size a b) : b.cell? ⟨g, o, none⟩ = some f ∧ b.cell? ⟨g, o + 3, none⟩ = some d ∧ Below w.heap.size w b := by
  have hg2 : g < a.heap.size := Nat.lt_of_lt_of_le hg h.2.2.size
  exact ⟨(hb.cell (p := ⟨g, o, none⟩) hg2).trans h.1, (hb.cell (p := ⟨g, o + 3, none⟩) hg2).trans h.2.1, bl_trans h.2.2 hb⟩
theorem l07Factor_any (f : Int) (w : World) (h0 : 1 ≤ f) (h1 : f ≤ 6) : Calls Try.prog 70 #[.int .i64 f] w fun e w' => e = .returned (.int .i64 (facF f)) ∧ Below w.heap.size w w' := by
  rcases f_parts h0 h1 with rfl | rfl | rfl | rfl | rfl | rfl
  all_goals
    go_enter Try.func70, Try.ntmps70
    go_wp2
    go_ret
    exact ⟨rfl, by repeat (first | exact Below.refl _ _ | apply bl_alloc)⟩
theorem l07Strength_any (x : Ly) (g o : Nat) (d : Int) (w : World) (hx : LyB x) (hl : LyAt w g o x) (h0 : 0 ≤ d) (h1 : d ≤ 1000) : Calls Try.prog 63 #[.pointer (some ⟨g, o, none⟩), .int .i64 d] w fun e w' => e = .returned (.tuple #[.int .i64 (lowF x d), .int .i64 (highF x d)]) ∧ Below w.heap.size w w' := by
  obtain ⟨a0, a1⟩ := dd_bd hx
  obtain ⟨b0, b1⟩ := ddf_bd hx
  obtain ⟨n0, n1⟩ := baseF_bd hx
  obtain ⟨m0, m1, m2, m3⟩ := bm_bd hx d h0 h1
  have F1 : Hid (baseF x * (1000 - d) / 1000 = lowF x d) := rfl
  have F2 : Hid ((baseF x * (1000 + d) + 999) / 1000 = highF x d) := rfl
  have hn : rdiv (x.dens * x.dens * facF x.form) 1000 = baseF x := rfl
  have hf0 := hx.f0
  have hf1 := hx.f1
  have hg := hl.lt
  obtain ⟨c0, c1, c2, c3, c4, c5, c6⟩ := hl
  clear c1 c2 c4 c5 c6
  have r1 : IntKind.i64.wrap (x.dens * x.dens) = x.dens * x.dens := by rw [IntKind.wrap_i64]; omega
  have r2 : IntKind.i64.wrap (x.dens * x.dens * facF x.form) = x.dens * x.dens * facF x.form := by rw [IntKind.wrap_i64]; omega
  have r3 : IntKind.i64.wrap (IntKind.i64.wrap (x.dens * x.dens) * facF x.form) = x.dens * x.dens * facF x.form := by rw [r1]; exact r2
  have hn3 : rdiv (IntKind.i64.wrap (IntKind.i64.wrap (x.dens * x.dens) * facF x.form)) 1000 = baseF x := by rw [r3]; rfl
  clear r1 r2
  generalize baseF x = n at *
  go_enter Try.func63, Try.ntmps63
  go_wp2_with fail
  go_region_held3 (fun w' => w'.cell? ⟨g, o, none⟩ = some (.int .i64 x.form) ∧ w'.cell? ⟨g, o + 3, none⟩ = some (.int .i64 x.dens) ∧ Below w.heap.size w w') (first | exact S_step hg (by assumption) hb1 | (refine S_step hg ⟨?_, ?_, ?_⟩ (by assumption) <;> first | assumption | exact Below.refl _ _) | (refine ⟨?_, ?_, ?_⟩ <;> first | assumption | exact (Below.refl _ _).drew | exact Below.refl _ _ | exact bl_alloc (by assumption) _ | exact bl_alloc (Below.refl _ _) _ | go_keep) | go_keep ) (first | (go_at_call 70; refine (l07Factor_any _ _ hf0 hf1).mono ?_; rintro e w1 ⟨rfl, hb1⟩) | (go_at_call 60; refine (l01Div_any _ _ _ (by omega) (by omega) (by omega) (by omega) (by omega)).mono ?_; rintro e w' ⟨rfl, rfl⟩))
  go_wp2_with fail
  go_ret2
  exact ⟨ret2i F1.out F2.out, by repeat (first | assumption | exact Below.refl _ _ | apply bl_alloc | apply bl_drewN | apply And.right | apply bl_trans)⟩
end Go.Proofs.Ytfndcahjjlcnaaa
