/- One layer that gets heat: the program's method. -/
import Derived.Test.YtnlikinckmoomaaHeat
import Derived.RegionTactic
import Derived.Laws.Cover1
import Derived.BigRegion
import Derived.Deep.RegionHeld3
namespace Go.Proofs.Ytnlikinckmoomaa
open Go.ChangeShapes Go.WideShapes Go.ChangeAt Go.RowKit Go.Joins Go.Deep
set_option linter.unusedVariables false
theorem OwnL.set0 {w : World} {g : Nat} {t : TypeId} {ms : List Ly} {k : Nat} {x : Ly} (h : OwnL w g t ms) (hx : ms[k]? = some x) : OwnL w g t (ms.set k x) := by
  have e : ms.set k x = ms := by
    obtain ⟨hk, e⟩ := List.getElem?_eq_some_iff.1 hx
    subst e
    exact List.set_getElem_self hk
  rwa [e]
theorem OwnL.setk {w : World} {g : Nat} {t : TypeId} {ms : List Ly} {k : Nat} {y : Ly} (h : OwnL w g t (ms.set k y)) (hk : k < ms.length) (j : Nat) (hj : j < 7) (v : Int) : OwnL (w.setCell ⟨g, k * 7 + j, none⟩ (.int .i64 v)) g t (ms.set k (y.put j v)) := by
  have := h.set (k := k) (x := y) (by rw [List.getElem?_set, if_pos rfl, if_pos hk]) j hj v
  rwa [List.set_set] at this
/-- What a method leaves that changes layer k of a list in block g. -/
def Turns1 (w : World) (g k : Nat) (ms : List Ly) (y : Ly) (q : Int) (b : Bool) (e : Ending) (w' : World) : Prop := e = .returned (.tuple #[.int .i64 q, .bool b]) ∧ OwnL w' g 45 (ms.set k y) ∧ w.grownBy w' (some g)
theorem min3 {a b c : Int} : minI a (minI b c) = if b < a then (if c < b then c else b) else (if c < a then c else a) := by unfold minI; split <;> split <;> split <;> omega
theorem minI_0 (a : Int) : (0 < a → minI 0 a = 0) ∧ (¬ 0 < a → minI 0 a = a) := by unfold minI; exact ⟨fun h => by rw [if_pos h], fun h => by rw [if_neg h]⟩
theorem warm_lt {x : Ly} {j : Int} (h : j < coldF x) : warmX x j = x.put 4 (minI 0 (x.deg + quoF x j)) ∧ warmJ x j = 0 ∧ warmB x j = false := by unfold warmX warmJ warmB; rw [if_pos h, if_pos h, if_pos h]; exact ⟨rfl, rfl, rfl⟩
theorem warm_ge {x : Ly} {j : Int} (h : ¬ j < coldF x) : warmX x j = ((x.put 4 0).put 1 (x.ice - warmG x (j - coldF x))).put 2 (x.water + warmG x (j - coldF x)) ∧ warmJ x j = j - coldF x - warmG x (j - coldF x) * 334 ∧ warmB x j = decide (334 ≤ j - coldF x - warmG x (j - coldF x) * 334) := by unfold warmX warmJ warmB; rw [if_neg h, if_neg h, if_neg h]; exact ⟨rfl, rfl, rfl⟩
set_option maxHeartbeats 4000000 in
theorem warm_any (g k : Nat) (ms : List Ly) (x : Ly) (j : Int) (w : World) (ho : OwnL w g 45 ms) (hx : ms[k]? = some x) (hB : LyB x) (h0 : 0 ≤ j) (h1 : j ≤ 100000000) :
    Calls Try.prog 56 #[.pointer (some ⟨g, k * 7, none⟩), .int .i64 j] w (Turns1 w g k ms (warmX x j) (warmJ x j) (warmB x j)) := by
  have hk : k < ms.length := (List.getElem?_eq_some_iff.1 hx).1
  have hl := ho.at_ hx
  obtain ⟨c0, c1, c2, c3, c4, c5, c6⟩ := hl
  obtain ⟨t0, t1⟩ := coldF_bd hB
  have hgl := ho.lt
  have HX := Lib.hid hx
  have HO := Lib.hid ho
  clear hx ho
  obtain ⟨i0, i1⟩ : 1 ≤ x.ice ∧ x.ice ≤ 1000000 := ⟨hB.i0, hB.i1⟩
  obtain ⟨v0, v1⟩ : 0 ≤ x.water ∧ x.water ≤ 1000000 := ⟨hB.w0, hB.w1⟩
  obtain ⟨d0, d1⟩ : -4000 ≤ x.deg ∧ x.deg ≤ 0 := ⟨hB.g0, hB.g1⟩
  have HC : Hid (∀ W : World, Calls Try.prog 76 #[.agg #[.int .i64 x.form, .int .i64 x.ice, .int .i64 x.water, .int .i64 x.dens, .int .i64 x.deg, .int .i64 x.hard, .int .i64 x.age]] W fun e w' => e = .returned (.int .i64 (coldF x)) ∧ Below W.heap.size W w') := Lib.hid fun W => cold_any x W hB
  by_cases hlt : j < coldF x
  · have F := Lib.hid (warm_lt hlt)
    obtain ⟨q0, q1⟩ := quoF_bd hB h0 h1
    have r1 : IntKind.i64.wrap (j * 1000) = j * 1000 := by rw [IntKind.wrap_i64]; omega
    have r2 : IntKind.i64.wrap (21 * x.ice) = 21 * x.ice := by rw [IntKind.wrap_i64]; omega
    have r3 : (j * 1000).tdiv (21 * x.ice) = quoF x j := Int.tdiv_eq_ediv_of_nonneg (by omega)
    have M := minI_0 (x.deg + quoF x j)
    generalize coldF x = cd at *
    generalize quoF x j = q at *
    have r4 : IntKind.i64.wrap q = q := by rw [IntKind.wrap_i64]; omega
    have r5 : IntKind.i64.wrap (x.deg + q) = x.deg + q := by rw [IntKind.wrap_i64]; omega
    have z1 : ¬ 21 * x.ice = 0 := by omega
    have z2 : (21 * x.ice == 0) = false := by simp; omega
    have R1 := Lib.hid r1
    have R2 := Lib.hid r2
    have R3 := Lib.hid r3
    have R4 := Lib.hid r4
    have R5 := Lib.hid r5
    have Z1 := Lib.hid z1
    clear r1 r2 r3 r4 r5 z1
    by_cases hm : 0 < x.deg + q
    all_goals
      go_enter Try.func56, Try.ntmps56
      go_wp2_with fail
      clear c0 c1 c2 c3 c4 c5 c6
      refine (HC.out _).mono ?_
      rintro e w1 ⟨rfl, hb1⟩
      have hO1 := HO.out.below hb1
      have hf4 := hO1.frozen (k * 7 + 4)
      obtain ⟨c0, c1, c2, c3, c4, c5, c6⟩ := hO1.at_ HX.out
      have HS := Lib.hid (hO1.set0 HX.out)
      clear hO1
      go_wp2_with fail
      have r1 := R1.out
      have r2 := R2.out
      have r3 := R3.out
      have r4 := R4.out
      have r5 := R5.out
      have z1 := Z1.out
      go_region
      go_wp2_with fail
      go_ret2
      first
        | exact ⟨by rw [F.out.2.1, F.out.2.2]; rfl, by rw [F.out.1, M.1 hm]; exact HS.out.setk hk 4 (by omega) 0, only_drew (only_set (only_below (only_refl _ _) hb1) _ _)⟩
        | exact ⟨by rw [F.out.2.1, F.out.2.2]; rfl, by rw [F.out.1, M.2 hm]; exact HS.out.setk hk 4 (by omega) _, only_drew (only_set (only_below (only_refl _ _) hb1) _ _)⟩
  · have F := Lib.hid (warm_ge hlt)
    obtain ⟨w0, w1, w2, w3⟩ := warmG_bd (j := j - coldF x) hB (by omega) (by omega)
    have hG : warmG x (j - coldF x) = _ := min3 (a := (j - coldF x) / 334) (b := x.ice - 1) (c := 1000000 - x.water)
    generalize warmG x (j - coldF x) = G at *
    generalize coldF x = cd at *
    obtain ⟨a, ha⟩ : ∃ a, a = (j - cd) / 334 := ⟨_, rfl⟩
    obtain ⟨b, hb⟩ : ∃ b, b = x.ice - 1 := ⟨_, rfl⟩
    obtain ⟨c, hc⟩ : ∃ c, c = 1000000 - x.water := ⟨_, rfl⟩
    rw [← ha, ← hb, ← hc] at hG
    have a0 : 0 ≤ a := by omega
    have a1 : a * 334 ≤ j - cd := by omega
    have b0 : 0 ≤ b := by omega
    have b1 : b ≤ 1000000 := by omega
    have e0 : 0 ≤ c := by omega
    have e1 : c ≤ 1000000 := by omega
    have hbx : b ≤ x.ice - 1 := by omega
    have hcx : c ≤ 1000000 - x.water := by omega
    have R1 : Hid (((j - cd).tdiv 334) = a) := by show _ = _; rw [ha]; exact Int.tdiv_eq_ediv_of_nonneg (by omega)
    have R2 : Hid (IntKind.i64.wrap a = a) := by show _ = _; rw [IntKind.wrap_i64]; omega
    have R3 : Hid (IntKind.i64.wrap (x.ice - 1) = b) := by show _ = _; rw [IntKind.wrap_i64]; omega
    have R4 : Hid (IntKind.i64.wrap (1000000 - x.water) = c) := by show _ = _; rw [IntKind.wrap_i64]; omega
    have hif : (if c < (if b < a then b else a) then c else (if b < a then b else a)) = G := by rw [hG]; split <;> split <;> (try split) <;> omega
    have HM : Hid (∀ W : World, (Builtin.min_ #[2, 2, 2] 2 #[.int .i64 a, .int .i64 b, .int .i64 c]).run Try.prog W = .ok (.int .i64 G) W) := Lib.hid fun W => by rw [run_min_int3, hif]
    have HIF := Lib.hid hif
    clear ha hb hc hG hif
    go_enter Try.func56, Try.ntmps56
    go_wp2_with fail
    clear c0 c1 c2 c3 c4 c5 c6
    refine (HC.out _).mono ?_
    rintro e w1 ⟨rfl, hb1⟩
    have hO1 := HO.out.below hb1
    have hf1 := hO1.frozen (k * 7 + 1)
    have hf2 := hO1.frozen (k * 7 + 2)
    have hf4 := hO1.frozen (k * 7 + 4)
    obtain ⟨c0, c1, c2, c3, c4, c5, c6⟩ := hO1.at_ HX.out
    have HS := Lib.hid (hO1.set0 HX.out)
    clear hO1
    go_wp2_with fail
    have r1 := R1.out
    have r2 := R2.out
    have r3 := R3.out
    have r4 := R4.out
    have hm := HM.out
    have hif := HIF.out
    go_region
    clear r1 r2 r3 r4 hm hif
    go_wp2_with fail
    go_ret2
    exact ⟨by rw [F.out.2.1, F.out.2.2]; rfl, by rw [F.out.1]; exact ((HS.out.setk hk 4 (by omega) 0).setk hk 1 (by omega) _).setk hk 2 (by omega) _, only_drew (only_set (only_set (only_set (only_below (only_refl _ _) hb1) _ _) _ _) _ _)⟩
end Go.Proofs.Ytnlikinckmoomaa
