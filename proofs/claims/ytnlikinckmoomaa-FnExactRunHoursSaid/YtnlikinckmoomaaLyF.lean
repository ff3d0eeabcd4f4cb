/- One layer's thickness and cold: contracts of the program's and of the reference's functions. The layer is a valid one. -/
import Derived.Test.YtnlikinckmoomaaOkL
import Derived.Test.YtnlikinckmoomaaDiv
import Derived.StillTailTactics
namespace Go.Proofs.Ytnlikinckmoomaa
open Go.ChangeShapes Go.WideShapes Go.ChangeAt Go.RowKit Go.Joins Go.Deep
set_option linter.unusedVariables false
def thick (x : Ly) : Int := rdiv x.ice x.dens
theorem bl_drewB {w a : World} {B : Nat} (h : Below B w a) (n : Nat) : Below B w (a.drewN n) := ⟨h.os, h.tape, h.output, h.size, h.block⟩
theorem thickness_any (x : Ly) (w : World) (hx : LyB x) : Calls Try.prog 84 #[.agg #[.int .i64 x.form, .int .i64 x.ice, .int .i64 x.water, .int .i64 x.dens, .int .i64 x.deg, .int .i64 x.hard, .int .i64 x.age]] w fun e w' => e = .returned (.int .i64 (thick x)) ∧ Below w.heap.size w w' := by
  obtain ⟨f0, f1, i0, i1, _, _, d0, d1, _, _, _, _, _, _⟩ := hx
  go_enter Try.func84, Try.ntmps84
  go_wp2_with fail
  refine (divRound_any _ _ _ (by omega) (by omega) (by omega) (by omega) (by omega)).mono ?_
  rintro e w' ⟨rfl, nd, rfl⟩
  go_wp2_with fail
  go_ret
  exact ⟨rfl, bl_drewN (bl_alloc (Below.refl _ _) _) _⟩
theorem l03Thick_any (x : Ly) (g o : Nat) (w : World) (hx : LyB x) (hl : LyAt w g o x) : Calls Try.prog 85 #[.pointer (some ⟨g, o, none⟩)] w fun e w' => e = .returned (.int .i64 (thick x)) ∧ ∃ n, w' = w.drewN n := by
  obtain ⟨f0, f1, i0, i1, _, _, d0, d1, _, _, _, _, _, _⟩ := hx
  obtain ⟨c0, c1, c2, c3, c4, c5, c6⟩ := hl
  go_enter Try.func85, Try.ntmps85
  go_wp2_with fail
  go_quiet ((go_at_call 64; exact quiet_left (l01Div_any _ _ _ (by omega) (by omega) (by omega) (by omega) (by omega))))
  go_wp2_with fail
  go_ret
  exact ⟨rfl, _, rfl⟩
theorem divUp_any (a b : Int) (w : World) (h0 : 0 ≤ a) (h1 : a ≤ 1000000000000000000) (h2 : 1 ≤ b) (h3 : b ≤ 1000000000000000000) : Calls Try.prog 74 #[.int .i64 a, .int .i64 b] w fun e w' => e = .returned (.int .i64 ((a + b - 1) / b)) ∧ w = w' := by
  obtain ⟨d1, d2⟩ := div_le_self (a + b - 1) b (by omega) (by omega)
  go_enter Try.func74, Try.ntmps74
  go_wp2
  go_ret
  exact ⟨rfl, rfl⟩
def coldP (x : Ly) : Int := -x.ice * x.deg
def coldF (x : Ly) : Int := (coldP x * 21 + 999) / 1000
theorem coldP_bd {x : Ly} (h : LyB x) : 0 ≤ coldP x ∧ coldP x ≤ 4000000000 := by
  obtain ⟨f0, f1, i0, i1, _, _, d0, d1, g0, g1, _, _, _, _⟩ := h
  have e : coldP x = x.ice * -x.deg := by unfold coldP; rw [Int.neg_mul, Int.mul_neg]
  have h1 : 0 ≤ x.ice * -x.deg := Int.mul_nonneg (by omega) (by omega)
  have h2 : x.ice * -x.deg ≤ 1000000 * 4000 := Int.mul_le_mul i1 (by omega) (by omega) (by omega)
  omega
theorem coldF_bd {x : Ly} (h : LyB x) : 0 ≤ coldF x ∧ coldF x ≤ 84000001 := by
  have := coldP_bd h
  unfold coldF
  omega
theorem cold_any (x : Ly) (w : World) (hx : LyB x) : Calls Try.prog 76 #[.agg #[.int .i64 x.form, .int .i64 x.ice, .int .i64 x.water, .int .i64 x.dens, .int .i64 x.deg, .int .i64 x.hard, .int .i64 x.age]] w fun e w' => e = .returned (.int .i64 (coldF x)) ∧ Below w.heap.size w w' := by
  obtain ⟨p0, p1⟩ := coldP_bd hx
  have ea : x.ice * 21 * absI x.deg = coldP x * 21 := by
    unfold coldP absI
    split
    · rw [Int.neg_mul, Int.mul_assoc, Int.mul_comm 21, ← Int.mul_assoc, Int.mul_neg]
    · have : x.deg = 0 := by have := hx.g1; omega
      rw [this]; simp
  have F : Hid ((coldP x * 21 + 1000 - 1) / 1000 = coldF x) := by show _ = _; unfold coldF; omega
  obtain ⟨f0, f1, i0, i1, _, _, d0, d1, g0, g1, _, _, _, _⟩ := hx
  generalize coldP x = p at *
  go_enter Try.func76, Try.ntmps76
  go_wp2_with fail
  go_quiet ((first | (go_at_call 68; exact quiet_left (abs_any _ _ (by omega) (by omega))) | (go_at_call 74; exact quiet_left (divUp_any _ _ _ (by omega) (by omega) (by omega) (by omega)))))
  go_wp2_with fail
  go_ret
  exact ⟨ret_int F.out, bl_drewN (bl_alloc (Below.refl _ _) _) _⟩
theorem l03Cold_any (x : Ly) (g o : Nat) (w : World) (hx : LyB x) (hl : LyAt w g o x) : Calls Try.prog 75 #[.pointer (some ⟨g, o, none⟩)] w fun e w' => e = .returned (.int .i64 (coldF x)) ∧ ∃ n, w' = w.drewN n := by
  obtain ⟨p0, p1⟩ := coldP_bd hx
  have F : Hid ((coldP x * 21 + 999) / 1000 = coldF x) := rfl
  have ep : -x.ice * x.deg = coldP x := rfl
  obtain ⟨f0, f1, i0, i1, _, _, d0, d1, g0, g1, _, _, _, _⟩ := hx
  obtain ⟨c0, c1, c2, c3, c4, c5, c6⟩ := hl
  generalize coldP x = p at *
  go_enter Try.func75, Try.ntmps75
  go_wp2_with fail
  go_quiet (fail)
  go_wp2_with fail
  go_ret
  exact ⟨ret_int F.out, _, rfl⟩
end Go.Proofs.Ytnlikinckmoomaa
