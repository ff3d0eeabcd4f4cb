/- JoinLayers: the contracts of the program's and of the reference's function. No condition. -/
import Derived.Test.YthlandlpjhdbdaaGrad
import Derived.Test.YthlandlpjhdbdaaConcat
import Derived.Test.YthlandlpjhdbdaaSettle
import Derived.Test.YthlandlpjhdbdaaDiv
import Derived.Laws.Cover1
import Derived.RegionTactic
import Derived.Deep.RegionWith
import Derived.Deep.RegionHeld3
import Derived.BigRegion
namespace Go.Proofs.Ythlandlpjhdbdaa
open Go.ChangeShapes Go.WideShapes Go.ChangeAt Go.RowKit Go.Joins Go.Deep
set_option linter.unusedVariables false
def joinF (x y : Ly) : Ly := ⟨x.form, x.ice + y.ice, x.water + y.water, rdiv (x.ice * x.dens + y.ice * y.dens) (x.ice + y.ice), rdiv (x.ice * x.deg + y.ice * y.deg) (x.ice + y.ice), minI x.hard y.hard, maxI x.age y.age⟩
theorem join_bd {x y : Ly} (h : LyB x) (k : LyB y) : (0 ≤ x.ice * x.dens ∧ x.ice * x.dens ≤ 900000000) ∧ (0 ≤ y.ice * y.dens ∧ y.ice * y.dens ≤ 900000000) ∧ (-4000000000 ≤ x.ice * x.deg ∧ x.ice * x.deg ≤ 0) ∧ (-4000000000 ≤ y.ice * y.deg ∧ y.ice * y.deg ≤ 0) := by
  have one : ∀ {z : Ly}, LyB z → (0 ≤ z.ice * z.dens ∧ z.ice * z.dens ≤ 900000000) ∧ (-4000000000 ≤ z.ice * z.deg ∧ z.ice * z.deg ≤ 0) := fun {z} h => by
    have := h.i0
    have := h.i1
    have := h.d0
    have := h.d1
    have := h.g0
    have := h.g1
    have a : 0 ≤ z.ice * z.dens := Int.mul_nonneg (by omega) (by omega)
    have b : z.ice * z.dens ≤ 1000000 * 900 := Int.mul_le_mul (by omega) (by omega) (by omega) (by omega)
    have c : 0 ≤ z.ice * -z.deg := Int.mul_nonneg (by omega) (by omega)
    have d : z.ice * -z.deg ≤ 1000000 * 4000 := Int.mul_le_mul (by omega) (by omega) (by omega) (by omega)
    rw [Int.mul_neg] at c d
    omega
  exact ⟨(one h).1, (one k).1, (one h).2, (one k).2⟩
set_option maxHeartbeats 2000000 in
theorem l03Join_any (x y : Ly) (g o g' o' : Nat) (w : World) (hx : LyAt w g o x) (hy : LyAt w g' o' y) (bx : LyB x) (bY : LyB y) :
    Calls Try.prog 13 #[.pointer (some ⟨g, o, none⟩), .pointer (some ⟨g', o', none⟩)] w fun e w' => e = .returned (.agg #[.int .i64 (joinF x y).form, .int .i64 (joinF x y).ice, .int .i64 (joinF x y).water, .int .i64 (joinF x y).dens, .int .i64 (joinF x y).deg, .int .i64 (joinF x y).hard, .int .i64 (joinF x y).age]) ∧ Below w.heap.size w w' := by
  obtain ⟨⟨a0, a1⟩, ⟨b0, b1⟩, ⟨d0, d1⟩, ⟨e0, e1⟩⟩ := join_bd bx bY
  obtain ⟨i0, i1⟩ : 1 ≤ x.ice ∧ x.ice ≤ 1000000 := ⟨bx.i0, bx.i1⟩
  obtain ⟨j0, j1⟩ : 1 ≤ y.ice ∧ y.ice ≤ 1000000 := ⟨bY.i0, bY.i1⟩
  obtain ⟨u0, u1⟩ : 0 ≤ x.water ∧ x.water ≤ 1000000 := ⟨bx.w0, bx.w1⟩
  obtain ⟨v0, v1⟩ : 0 ≤ y.water ∧ y.water ≤ 1000000 := ⟨bY.w0, bY.w1⟩
  have F : Hid (joinF x y = ⟨x.form, x.ice + y.ice, x.water + y.water, rdiv (x.ice * x.dens + y.ice * y.dens) (x.ice + y.ice), rdiv (x.ice * x.deg + y.ice * y.deg) (x.ice + y.ice), minI x.hard y.hard, maxI x.age y.age⟩) := rfl
  have W1 : IntKind.i64.wrap (x.ice * x.dens) = x.ice * x.dens := by rw [IntKind.wrap_i64]; omega
  have W2 : IntKind.i64.wrap (y.ice * y.dens) = y.ice * y.dens := by rw [IntKind.wrap_i64]; omega
  have W3 : IntKind.i64.wrap (x.ice * x.dens + y.ice * y.dens) = x.ice * x.dens + y.ice * y.dens := by rw [IntKind.wrap_i64]; omega
  have W4 : IntKind.i64.wrap (x.ice * x.deg) = x.ice * x.deg := by rw [IntKind.wrap_i64]; omega
  have W5 : IntKind.i64.wrap (y.ice * y.deg) = y.ice * y.deg := by rw [IntKind.wrap_i64]; omega
  have W6 : IntKind.i64.wrap (x.ice * x.deg + y.ice * y.deg) = x.ice * x.deg + y.ice * y.deg := by rw [IntKind.wrap_i64]; omega
  have W7 : IntKind.i64.wrap (x.water + y.water) = x.water + y.water := by rw [IntKind.wrap_i64]; omega
  have hg := hx.lt
  have hg' := hy.lt
  obtain ⟨c0, c1, c2, c3, c4, c5, c6⟩ := hx
  obtain ⟨k0, k1, k2, k3, k4, k5, k6⟩ := hy
  obtain ⟨D, hD⟩ : ∃ D, D = rdiv (x.ice * x.dens + y.ice * y.dens) (x.ice + y.ice) := ⟨_, rfl⟩
  obtain ⟨E, hE⟩ : ∃ E, E = rdiv (x.ice * x.deg + y.ice * y.deg) (x.ice + y.ice) := ⟨_, rfl⟩
  have HD : Hid (∀ W : World, Calls Try.prog 22 #[.int .i64 (x.ice * x.dens + y.ice * y.dens), .int .i64 (x.ice + y.ice)] W fun e w' => e = .returned (.int .i64 D) ∧ w' = W) := Lib.hid fun W => (l01Div_any _ _ _ (by omega) (by omega) (by omega) (by omega) (by omega)).mono fun e w' h => ⟨by rw [hD]; exact h.1, h.2.symm⟩
  have HE : Hid (∀ W : World, Calls Try.prog 22 #[.int .i64 (x.ice * x.deg + y.ice * y.deg), .int .i64 (x.ice + y.ice)] W fun e w' => e = .returned (.int .i64 E) ∧ w' = W) := Lib.hid fun W => (l01Div_any _ _ _ (by omega) (by omega) (by omega) (by omega) (by omega)).mono fun e w' h => ⟨by rw [hE]; exact h.1, h.2.symm⟩
  rw [← hD, ← hE] at F
  clear hD hE a0 a1 b0 b1 d0 d1 e0 e1
  go_enter Try.func13, Try.ntmps13
  go_wp2_with fail
  go_quiet (fail)
  go_wp2_with fail
  refine wp_region_still_tail 10 (by kernel_rfl) (by kernel_rfl) ?_
  change wpStill _ _ (World.drew _) (fun a' => wpList _ _ _ _ a' (World.drew _)) _ _
  simp only [List.take_succ_cons, List.take_zero, List.drop_succ_cons, List.drop_zero]
  repeat still_step
  refine wpStill_nil ?_
  go_wp2_with fail
  refine wp_region_still_tail 22 (by kernel_rfl) (by kernel_rfl) ?_
  change wpStill _ _ (World.drew _) (fun a' => wpList _ _ _ _ a' (World.drew _)) _ _
  simp only [List.take_succ_cons, List.take_zero, List.drop_succ_cons, List.drop_zero]
  repeat still_step
  still_call (HD.out _)
  repeat still_step
  refine wpStill_nil ?_
  go_wp2_with fail
  refine wp_region_still_tail 22 (by kernel_rfl) (by kernel_rfl) ?_
  change wpStill _ _ (World.drew _) (fun a' => wpList _ _ _ _ a' (World.drew _)) _ _
  simp only [List.take_succ_cons, List.take_zero, List.drop_succ_cons, List.drop_zero]
  repeat still_step
  still_call (HE.out _)
  repeat still_step
  refine wpStill_nil ?_
  go_wp2_with fail
  refine wp_region_still_tail 10 (by kernel_rfl) (by kernel_rfl) ?_
  change wpStill _ _ (World.drew _) (fun a' => wpList _ _ _ _ a' (World.drew _)) _ _
  simp only [List.take_succ_cons, List.take_zero, List.drop_succ_cons, List.drop_zero]
  repeat still_step
  still_call ((l00Min_any _ _ _).mono fun e w' h => ⟨h.1, h.2.symm⟩)
  repeat still_step
  refine wpStill_nil ?_
  go_wp2_with fail
  refine wp_region_still_tail 10 (by kernel_rfl) (by kernel_rfl) ?_
  change wpStill _ _ (World.drew _) (fun a' => wpList _ _ _ _ a' (World.drew _)) _ _
  simp only [List.take_succ_cons, List.take_zero, List.drop_succ_cons, List.drop_zero]
  repeat still_step
  still_call ((l00Max_any _ _ _).mono fun e w' h => ⟨h.1, h.2.symm⟩)
  repeat still_step
  refine wpStill_nil ?_
  go_wp2_with fail
  refine bodyPost_ret (v := .agg #[.int .i64 x.form, .int .i64 (x.ice + y.ice), .int .i64 (x.water + y.water), .int .i64 D, .int .i64 E, .int .i64 (minI x.hard y.hard), .int .i64 (maxI x.age y.age)]) (by simp [results, Try.results13, go_sem]) rfl ⟨by rw [F.out], ?_⟩
  exact (bl_alloc (bl_set (bl_set (bl_set (bl_set (bl_set (bl_set (bl_set (bl_drewN (bl_alloc (Below.refl _ _) _) _) _ _ (Nat.le_refl _) _) _ _ (Nat.le_refl _) _) _ _ (Nat.le_refl _) _) _ _ (Nat.le_refl _) _) _ _ (Nat.le_refl _) _) _ _ (Nat.le_refl _) _) _ _ (Nat.le_refl _) _) _).drew.drew.drew.drew.drew
end Go.Proofs.Ythlandlpjhdbdaa
