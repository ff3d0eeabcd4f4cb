/- Heat that goes into layers, or out of them, from the top: plain laws. -/
import Derived.Test.YtnlikinckmoomaaInp
import Derived.Test.YtnlikinckmoomaaLyF
import Derived.Test.YtnlikinckmoomaaDrain
namespace Go.Proofs.Ytnlikinckmoomaa
open Go.ChangeShapes Go.WideShapes Go.ChangeAt Go.RowKit Go.Joins Go.Deep
set_option linter.unusedVariables false
/-! ### one layer -/
def quoF (x : Ly) (j : Int) : Int := j * 1000 / (21 * x.ice)
def warmG (x : Ly) (j : Int) : Int := minI (j / 334) (minI (x.ice - 1) (1000000 - x.water))
def warmX (x : Ly) (j : Int) : Ly := if j < coldF x then x.put 4 (minI 0 (x.deg + quoF x j)) else ((x.put 4 0).put 1 (x.ice - warmG x (j - coldF x))).put 2 (x.water + warmG x (j - coldF x))
def warmJ (x : Ly) (j : Int) : Int := if j < coldF x then 0 else j - coldF x - warmG x (j - coldF x) * 334
def warmB (x : Ly) (j : Int) : Bool := if j < coldF x then false else decide (334 ≤ j - coldF x - warmG x (j - coldF x) * 334)
def coolG (x : Ly) (j : Int) : Int := minI (j / 334) (minI x.water (1000000 - x.ice))
def coolY (x : Ly) (j : Int) : Ly := (x.put 1 (x.ice + coolG x j)).put 2 (x.water - coolG x j)
def coolD (x : Ly) (j : Int) : Int := minI ((j - coolG x j * 334) * 1000 / (21 * (x.ice + coolG x j))) (x.deg + 4000)
def coolX (x : Ly) (j : Int) : Ly := if 0 < x.water - coolG x j then coolY x j else (coolY x j).put 4 (x.deg - coolD x j)
def coolJ (x : Ly) (j : Int) : Int := if 0 < x.water - coolG x j then j - coolG x j * 334 else j - coolG x j * 334 - minI (j - coolG x j * 334) ((coolD x j * 21 * (x.ice + coolG x j) + 999) / 1000)
def coolB (x : Ly) (j : Int) : Bool := if 0 < x.water - coolG x j then false else decide (x.deg - coolD x j = -4000)
theorem quoF_bd {x : Ly} (h : LyB x) {j : Int} (h0 : 0 ≤ j) (h1 : j ≤ 100000000) : 0 ≤ quoF x j ∧ quoF x j ≤ 100000000000 := by
  have := h.i0
  obtain ⟨a, b⟩ := div_le_self (j * 1000) (21 * x.ice) (by omega) (by omega)
  unfold quoF
  omega
theorem warmG_bd {x : Ly} (h : LyB x) {j : Int} (h0 : 0 ≤ j) (h1 : j ≤ 100000000) : 0 ≤ warmG x j ∧ warmG x j ≤ x.ice - 1 ∧ warmG x j ≤ 1000000 - x.water ∧ warmG x j * 334 ≤ j := by
  have := h.i0
  have := h.w1
  unfold warmG minI
  split <;> split <;> omega
theorem coolG_bd {x : Ly} (h : LyB x) {j : Int} (h0 : 0 ≤ j) (h1 : j ≤ 100000000) : 0 ≤ coolG x j ∧ coolG x j ≤ x.water ∧ coolG x j ≤ 1000000 - x.ice ∧ coolG x j * 334 ≤ j := by
  have := h.w0
  have := h.i1
  unfold coolG minI
  split <;> split <;> omega
theorem coolD_bd {x : Ly} (h : LyB x) {j : Int} (h0 : 0 ≤ j) (h1 : j ≤ 100000000) : 0 ≤ coolD x j ∧ coolD x j ≤ x.deg + 4000 ∧ coolD x j ≤ 4000 := by
  obtain ⟨a, b, c, d⟩ := coolG_bd h h0 h1
  have := h.g0
  have := h.g1
  have := h.i0
  obtain ⟨e, f⟩ := div_le_self ((j - coolG x j * 334) * 1000) (21 * (x.ice + coolG x j)) (by omega) (by omega)
  unfold coolD minI
  split <;> omega
theorem warmX_b {x : Ly} (h : LyB x) {j : Int} (h0 : 0 ≤ j) (h1 : j ≤ 100000000) : LyB (warmX x j) := by
  obtain ⟨f0, f1, i0, i1, w0, w1, d0, d1, g0, g1, k0, k1, a0, a1⟩ := h
  unfold warmX
  split
  · have q := quoF_bd ⟨f0, f1, i0, i1, w0, w1, d0, d1, g0, g1, k0, k1, a0, a1⟩ h0 h1
    refine ⟨f0, f1, i0, i1, w0, w1, d0, d1, ?_, ?_, k0, k1, a0, a1⟩ <;> (simp only [Ly.put, minI]; split <;> omega)
  · obtain ⟨c0, _⟩ := coldF_bd ⟨f0, f1, i0, i1, w0, w1, d0, d1, g0, g1, k0, k1, a0, a1⟩
    obtain ⟨a, b, c, d⟩ := warmG_bd (j := j - coldF x) ⟨f0, f1, i0, i1, w0, w1, d0, d1, g0, g1, k0, k1, a0, a1⟩ (by omega) (by omega)
    refine ⟨f0, f1, ?_, ?_, ?_, ?_, d0, d1, ?_, ?_, k0, k1, a0, a1⟩ <;> (simp only [Ly.put]; omega)
theorem warmJ_bd {x : Ly} (h : LyB x) {j : Int} (h0 : 0 ≤ j) (h1 : j ≤ 100000000) : 0 ≤ warmJ x j ∧ warmJ x j ≤ 100000000 := by
  unfold warmJ
  split
  · omega
  · obtain ⟨c0, _⟩ := coldF_bd h
    obtain ⟨a, b, c, d⟩ := warmG_bd (j := j - coldF x) h (by omega) (by omega)
    omega
theorem coolX_b {x : Ly} (h : LyB x) {j : Int} (h0 : 0 ≤ j) (h1 : j ≤ 100000000) : LyB (coolX x j) := by
  obtain ⟨a, b, c, d⟩ := coolG_bd h h0 h1
  obtain ⟨e, f, _⟩ := coolD_bd h h0 h1
  obtain ⟨f0, f1, i0, i1, w0, w1, d0, d1, g0, g1, k0, k1, a0, a1⟩ := h
  unfold coolX
  split
  · refine ⟨f0, f1, ?_, ?_, ?_, ?_, d0, d1, g0, g1, k0, k1, a0, a1⟩ <;> (simp only [coolY, Ly.put]; omega)
  · refine ⟨f0, f1, ?_, ?_, ?_, ?_, d0, d1, ?_, ?_, k0, k1, a0, a1⟩ <;> (simp only [coolY, Ly.put]; omega)
theorem coolJ_bd {x : Ly} (h : LyB x) {j : Int} (h0 : 0 ≤ j) (h1 : j ≤ 100000000) : 0 ≤ coolJ x j ∧ coolJ x j ≤ 100000000 := by
  obtain ⟨a, b, c, d⟩ := coolG_bd h h0 h1
  obtain ⟨e, f, _⟩ := coolD_bd h h0 h1
  have := h.i0
  have p : 0 ≤ coolD x j * 21 * (x.ice + coolG x j) := Int.mul_nonneg (by omega) (by omega)
  unfold coolJ minI
  split
  · omega
  · split <;> omega
/-! ### all layers -/
structure HeatF where
  X : Ly → Int → Ly
  J : Ly → Int → Int
  B : Ly → Int → Bool
def warmF : HeatF := ⟨warmX, warmJ, warmB⟩
def coolF : HeatF := ⟨coolX, coolJ, coolB⟩
structure HeatB (f : HeatF) : Prop where
  x : ∀ {x : Ly}, LyB x → ∀ {j : Int}, 0 ≤ j → j ≤ 100000000 → LyB (f.X x j)
  j : ∀ {x : Ly}, LyB x → ∀ {j : Int}, 0 ≤ j → j ≤ 100000000 → 0 ≤ f.J x j ∧ f.J x j ≤ 100000000
theorem warm_hb : HeatB warmF := ⟨warmX_b, warmJ_bd⟩
theorem cool_hb : HeatB coolF := ⟨coolX_b, coolJ_bd⟩
structure Ht where
  j : Int
  go : Bool
  l : List Ly
def heatA (f : HeatF) (j : Int) : List Ly → Ht
  | [] => ⟨j, true, []⟩
  | x :: l => if (heatA f j l).go then ⟨f.J x (heatA f j l).j, f.B x (heatA f j l).j, f.X x (heatA f j l).j :: (heatA f j l).l⟩ else ⟨(heatA f j l).j, false, x :: (heatA f j l).l⟩
theorem heatA_len (f : HeatF) (j : Int) (ls : List Ly) : (heatA f j ls).l.length = ls.length := by
  induction ls with
  | nil => rfl
  | cons x l ih => simp only [heatA]; split <;> simp [ih]
theorem heatA_bd (f : HeatF) (hf : HeatB f) (j : Int) (h0 : 0 ≤ j) (h1 : j ≤ 100000000) : ∀ (ls : List Ly), (∀ x ∈ ls, LyB x) → 0 ≤ (heatA f j ls).j ∧ (heatA f j ls).j ≤ 100000000 ∧ ∀ y ∈ (heatA f j ls).l, LyB y
  | [], _ => by simp [heatA]; omega
  | x :: l, h => by
    obtain ⟨a, b, c⟩ := heatA_bd f hf j h0 h1 l (fun y hy => h y (by simp [hy]))
    have hx := h x (by simp)
    simp only [heatA]
    split
    · obtain ⟨p, q⟩ := hf.j hx a b
      refine ⟨p, q, fun y hy => ?_⟩
      simp only [List.mem_cons] at hy
      rcases hy with rfl | hy
      · exact hf.x hx a b
      · exact c y hy
    · refine ⟨a, b, fun y hy => ?_⟩
      simp only [List.mem_cons] at hy
      rcases hy with rfl | hy
      · exact hx
      · exact c y hy
theorem heat_VL {ls : List Ly} (V : VL ls) (f : HeatF) (hf : HeatB f) {j : Int} (h0 : 0 ≤ j) (h1 : j ≤ 100000000) : VL (heatA f j ls).l := VL.of_mem (by rw [heatA_len]; exact V.len) (heatA_bd f hf j h0 h1 ls V.mem).2.2
theorem heat_at (f : HeatF) (j : Int) (ls : List Ly) (k : Nat) (h : k < ls.length) (hgo : (heatA f j (ls.drop (k + 1))).go = true) :
    heatA f j (ls.drop k) = ⟨f.J ls[k] (heatA f j (ls.drop (k + 1))).j, f.B ls[k] (heatA f j (ls.drop (k + 1))).j, f.X ls[k] (heatA f j (ls.drop (k + 1))).j :: (heatA f j (ls.drop (k + 1))).l⟩ := by
  rw [drop_at ls k h]
  simp only [heatA]
  rw [if_pos hgo]
/-- once it has stopped, the layers below stay as they are -/
theorem heat_stop (f : HeatF) (j : Int) (ls : List Ly) : ∀ (k : Nat), k ≤ ls.length → (heatA f j (ls.drop k)).go = false → (heatA f j ls).j = (heatA f j (ls.drop k)).j ∧ (heatA f j ls).l = ls.take k ++ (heatA f j (ls.drop k)).l
  | 0, _, _ => ⟨rfl, by simp⟩
  | k + 1, hk, h => by
    have e : heatA f j (ls.drop k) = ⟨(heatA f j (ls.drop (k + 1))).j, false, ls[k] :: (heatA f j (ls.drop (k + 1))).l⟩ := by
      rw [drop_at ls k (by omega)]
      simp only [heatA]
      rw [h]
      rfl
    obtain ⟨a, b⟩ := heat_stop f j ls k (by omega) (by rw [e])
    refine ⟨by rw [a, e], ?_⟩
    rw [b, e, List.take_succ_eq_append_getElem (by omega), List.append_assoc]
    rfl
end Go.Proofs.Ytnlikinckmoomaa
