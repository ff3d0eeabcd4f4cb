/- One layer that loses heat: the program's method. -/
import Derived.Test.YtnlikinckmoomaaWarm
namespace Go.Proofs.Ytnlikinckmoomaa
open Go.ChangeShapes Go.WideShapes Go.ChangeAt Go.RowKit Go.Joins Go.Deep
set_option linter.unusedVariables false
theorem put_21 (x : Ly) (a b : Int) : (x.put 2 b).put 1 a = (x.put 1 a).put 2 b := rfl
theorem cool_lt {x : Ly} {j : Int} (h : 0 < x.water - coolG x j) : coolX x j = coolY x j ∧ coolJ x j = j - coolG x j * 334 ∧ coolB x j = false := by unfold coolX coolJ coolB; rw [if_pos h, if_pos h, if_pos h]; exact ⟨rfl, rfl, rfl⟩
theorem cool_ge {x : Ly} {j : Int} (h : ¬ 0 < x.water - coolG x j) : coolX x j = (coolY x j).put 4 (x.deg - coolD x j) ∧ coolJ x j = j - coolG x j * 334 - minI (j - coolG x j * 334) ((coolD x j * 21 * (x.ice + coolG x j) + 999) / 1000) ∧ coolB x j = decide (x.deg - coolD x j = -4000) := by unfold coolX coolJ coolB; rw [if_neg h, if_neg h, if_neg h]; exact ⟨rfl, rfl, rfl⟩
set_option maxHeartbeats 4000000 in
theorem cool_any (g k : Nat) (ms : List Ly) (x : Ly) (j : Int) (w : World) (ho : OwnL w g 45 ms) (hx : ms[k]? = some x) (hB : LyB x) (h0 : 0 ≤ j) (h1 : j ≤ 100000000) :
    Calls Try.prog 54 #[.pointer (some ⟨g, k * 7, none⟩), .int .i64 j] w (Turns1 w g k ms (coolX x j) (coolJ x j) (coolB x j)) := by
  have hk : k < ms.length := (List.getElem?_eq_some_iff.1 hx).1
  have hl := ho.at_ hx
  have hf1 := ho.frozen (k * 7 + 1)
  have hf2 := ho.frozen (k * 7 + 2)
  have hf4 := ho.frozen (k * 7 + 4)
  obtain ⟨c0, c1, c2, c3, c4, c5, c6⟩ := hl
  have HS := Lib.hid (ho.set0 hx)
  clear hx ho
  obtain ⟨i0, i1⟩ : 1 ≤ x.ice ∧ x.ice ≤ 1000000 := ⟨hB.i0, hB.i1⟩
  obtain ⟨v0, v1⟩ : 0 ≤ x.water ∧ x.water ≤ 1000000 := ⟨hB.w0, hB.w1⟩
  obtain ⟨d0, d1⟩ : -4000 ≤ x.deg ∧ x.deg ≤ 0 := ⟨hB.g0, hB.g1⟩
  obtain ⟨w0, w1, w2, w3⟩ := coolG_bd hB h0 h1
  obtain ⟨y0, y1, y2⟩ := coolD_bd hB h0 h1
  have hG : coolG x j = _ := min3 (a := j / 334) (b := x.water) (c := 1000000 - x.ice)
  have hD : coolD x j = minI ((j - coolG x j * 334) * 1000 / (21 * (x.ice + coolG x j))) (x.deg + 4000) := rfl
  have hY : coolY x j = (x.put 1 (x.ice + coolG x j)).put 2 (x.water - coolG x j) := rfl
  have FA := Lib.hid (fun h => cool_lt (x := x) (j := j) h)
  have FB := Lib.hid (fun h => cool_ge (x := x) (j := j) h)
  have hp : 0 ≤ coolD x j * 21 * (x.ice + coolG x j) := Int.mul_nonneg (by omega) (by omega)
  have hp2 : coolD x j * 21 * (x.ice + coolG x j) ≤ 84000 * 1000000 := Int.mul_le_mul (by omega) (by omega) (by omega) (by omega)
  generalize coolG x j = G at *
  generalize coolD x j = D at *
  obtain ⟨a, ha⟩ : ∃ a, a = j / 334 := ⟨_, rfl⟩
  obtain ⟨c, hc⟩ : ∃ c, c = 1000000 - x.ice := ⟨_, rfl⟩
  rw [← ha, ← hc] at hG
  have hif : (if c < (if x.water < a then x.water else a) then c else (if x.water < a then x.water else a)) = G := by rw [hG]; split <;> split <;> (try split) <;> omega
  have R1 : Hid (j.tdiv 334 = a) := by show _ = _; rw [ha]; exact Int.tdiv_eq_ediv_of_nonneg (by omega)
  have R2 : Hid (IntKind.i64.wrap a = a) := by show _ = _; rw [IntKind.wrap_i64]; omega
  have R4 : Hid (IntKind.i64.wrap (1000000 - x.ice) = c) := by show _ = _; rw [IntKind.wrap_i64]; omega
  have HM : Hid (∀ W : World, (Builtin.min_ #[2, 2, 2] 2 #[.int .i64 a, .int .i64 x.water, .int .i64 c]).run Try.prog W = .ok (.int .i64 G) W) := Lib.hid fun W => by rw [run_min_int3, hif]
  have HIF := Lib.hid hif
  obtain ⟨q, hq⟩ : ∃ q, q = (j - G * 334) * 1000 / (21 * (x.ice + G)) := ⟨_, rfl⟩
  obtain ⟨q0, q1⟩ := div_le_self ((j - G * 334) * 1000) (21 * (x.ice + G)) (by omega) (by omega)
  rw [← hq] at hD q0 q1
  have S1 : Hid (IntKind.i64.wrap ((j - G * 334) * 1000) = (j - G * 334) * 1000) := by show _ = _; rw [IntKind.wrap_i64]; omega
  have S2 : Hid (IntKind.i64.wrap (21 * (x.ice + G)) = 21 * (x.ice + G)) := by show _ = _; rw [IntKind.wrap_i64]; omega
  have S3 : Hid (((j - G * 334) * 1000).tdiv (21 * (x.ice + G)) = q) := by show _ = _; rw [hq]; exact Int.tdiv_eq_ediv_of_nonneg (by omega)
  have S4 : Hid (IntKind.i64.wrap q = q) := by show _ = _; rw [IntKind.wrap_i64]; omega
  have S5 : Hid (IntKind.i64.wrap (x.deg - -4000) = x.deg + 4000) := by show _ = _; rw [IntKind.wrap_i64]; omega
  have S6 : Hid (IntKind.i64.wrap (x.deg + 4000) = x.deg + 4000) := by show _ = _; rw [IntKind.wrap_i64]; omega
  have hif2 : (if x.deg + 4000 < q then x.deg + 4000 else q) = D := by rw [hD]; unfold minI; split <;> split <;> omega
  have HIF2 := Lib.hid hif2
  have Z1 : Hid (¬ 21 * (x.ice + G) = 0) := Lib.hid (by omega)
  obtain ⟨dv, hdv⟩ : ∃ dv, dv = (D * 21 * (x.ice + G) + 999) / 1000 := ⟨_, rfl⟩
  have dv0 : 0 ≤ dv := by omega
  have dv1 : dv ≤ 84000001 := by omega
  have HDV : Hid (∀ W : World, Calls Try.prog 74 #[.int .i64 (D * 21 * (x.ice + G)), .int .i64 1000] W fun e w' => e = .returned (.int .i64 dv) ∧ W = w') := Lib.hid fun W => by
    have := divUp_any (D * 21 * (x.ice + G)) 1000 W hp (by omega) (by omega) (by omega)
    rwa [show (D * 21 * (x.ice + G) + 1000 - 1) / 1000 = dv from by omega] at this
  obtain ⟨M, hM⟩ : ∃ M, M = minI (j - G * 334) dv := ⟨_, rfl⟩
  have m0 : 0 ≤ M := by rw [hM]; unfold minI; split <;> omega
  have m1 : M ≤ j - G * 334 := by rw [hM]; unfold minI; split <;> omega
  have HIF3 : Hid ((if j - G * 334 < dv then j - G * 334 else dv) = M) := by show _ = _; rw [hM]; rfl
  rw [← hdv, ← hM] at FB
  have HY := Lib.hid hY
  clear ha hc hG hif hq hD hif2 hdv hM hY
  by_cases hw : 0 < x.water - G
  · have F := Lib.hid (FA.out hw)
    clear FA FB
    go_enter Try.func54, Try.ntmps54
    go_wp2_with fail
    have r1 := R1.out
    have r2 := R2.out
    have r4 := R4.out
    have hm := HM.out
    have hif := HIF.out
    go_region
    clear r1 r2 r4 hm hif
    go_wp2_with fail
    go_ret2
    exact ⟨by rw [F.out.2.1, F.out.2.2]; rfl, by rw [F.out.1, HY.out, ← put_21]; exact (HS.out.setk hk 2 (by omega) _).setk hk 1 (by omega) _, only_drew (only_set (only_set (only_refl w _) _ _) _ _)⟩
  · have F := Lib.hid (FB.out hw)
    clear FA FB
    go_enter Try.func54, Try.ntmps54
    go_wp2_with fail
    have r1 := R1.out
    have r2 := R2.out
    have r4 := R4.out
    have hm := HM.out
    have hif := HIF.out
    go_region
    clear r1 r2 r4 hm hif
    go_wp2_with fail
    have r1 := S1.out
    have r2 := S2.out
    have r3 := S3.out
    have r4 := S4.out
    have r5 := S5.out
    have r6 := S6.out
    have z1 := Z1.out
    have hif := HIF2.out
    go_region
    clear r1 r2 r3 r4 r5 r6 hif z1
    have hif := HIF3.out
    go_wp2_with (go_at_call 74; refine (HDV.out _).mono ?_; rintro e w' ⟨rfl, rfl⟩)
    clear hif
    go_region
    go_wp2_with fail
    go_ret2
    exact ⟨by rw [F.out.2.1, F.out.2.2]; first | rfl | (congr 3; simp; done), by rw [F.out.1, HY.out, ← put_21]; exact ((HS.out.setk hk 2 (by omega) _).setk hk 1 (by omega) _).setk hk 4 (by omega) _, only_drew (only_drew (only_drew (only_set (only_set (only_set (only_refl w _) _ _) _ _) _ _)))⟩
end Go.Proofs.Ytnlikinckmoomaa
