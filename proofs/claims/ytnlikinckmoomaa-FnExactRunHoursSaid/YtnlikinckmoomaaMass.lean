/- Masses of lists of layers: the contracts of MassOf, LoadAbove and what they call, on both sides. -/
import Derived.Test.YtnlikinckmoomaaSum
import Derived.Deep.QuietTactic
import Derived.BigQuiet
namespace Go.Proofs.Ytnlikinckmoomaa
open Go.ChangeShapes Go.WideShapes Go.ChangeAt Go.RowKit Go.Joins Go.Deep
set_option linter.unusedVariables false
theorem ice_bd {x : Ly} (h : LyB x) : 0 ≤ x.ice ∧ x.ice ≤ 1000000 := ⟨by have := h.i0; omega, h.i1⟩
theorem water_bd {x : Ly} (h : LyB x) : 0 ≤ x.water ∧ x.water ≤ 1000000 := ⟨h.w0, h.w1⟩
def massF (x : Ly) : Int := x.ice + x.water
theorem mass_bd {x : Ly} (h : LyB x) : 0 ≤ massF x ∧ massF x ≤ 2000000 := by
  have := ice_bd h
  have := water_bd h
  unfold massF
  omega
theorem sumF_mass (ls : List Ly) : sumF Ly.ice ls + sumF Ly.water ls = sumF massF ls := by
  induction ls with
  | nil => rfl
  | cons x l ih => simp only [sumF, massF] at *; omega
theorem l03Mass_any (A : Option Addr) (c : Nat) (ls : List Ly) (w : World) (hr : RdL w A ls) (V : VL ls) :
    Calls Try.prog 82 #[.slice A ls.length c] w fun e w' => e = .returned (.tuple #[.int .i64 (sumF Ly.ice ls), .int .i64 (sumF Ly.water ls)]) ∧ w = w' := by
  have h16 := V.len
  go_enter Try.func82, Try.ntmps82
  go_wp2_with fail
  go_loop [4, 5, 6] (fun a b i => ∃ k : Nat, k ≤ ls.length ∧ i = .int .i64 k ∧ a = .int .i64 (sumF Ly.ice (ls.take k)) ∧ b = .int .i64 (sumF Ly.water (ls.take k))) (fun _ _ i => ls.length - (intOf i).toNat)
  case atStart => exact ⟨0, Nat.zero_le _, rfl, rfl, rfl⟩
  case round =>
    obtain ⟨k, hk, rfl, rfl, rfl⟩ := hrel
    by_cases hlt : k < ls.length
    · obtain ⟨g, o, rfl, hx⟩ := hr.at_ k hlt
      obtain ⟨c0, c1, c2, c3, c4, c5, c6⟩ := hx
      have S1 := Lib.hid (sumF_snoc Ly.ice ls k hlt)
      have S2 := Lib.hid (sumF_snoc Ly.water ls k hlt)
      obtain ⟨s0, s1⟩ := V.sum Ly.ice 1000000 (fun x hx => ice_bd hx) (by omega) k
      obtain ⟨s2, s3⟩ := V.sum Ly.water 1000000 (fun x hx => water_bd hx) (by omega) k
      obtain ⟨t0, t1⟩ := ice_bd (V.get k hlt)
      obtain ⟨t2, t3⟩ := water_bd (V.get k hlt)
      generalize sumF Ly.ice (ls.take k) = s at *
      generalize sumF Ly.water (ls.take k) = u at *
      go_wp2_with fail
      go_round
      case rel => exact ⟨k + 1, by omega, by go_num, val_int S1.out.symm, val_int S2.out.symm⟩
      case measure => simp [intOf]; omega
    · obtain rfl : k = ls.length := by omega
      go_wp2_with fail
      go_ret2
      exact ⟨ret2i (by first | rfl | rw [sumF_all]) (by first | rfl | rw [sumF_all]), rfl⟩
/-! ### 'list[k:]' -/
theorem slice_from (A : Option Addr) (c : Nat) (ls : List Ly) (k : Nat) (lo : Int) (hlo : lo = (k : Int)) (hk : k ≤ ls.length) (hc : ls.length ≤ c) :
    ∃ A' c', (∀ w : World, (Instr.slice 24 (.slice A ls.length c) (some (.int .i64 lo)) none none).run Try.prog w = .ok (.slice A' (ls.drop k).length c') w) ∧ (∀ w : World, RdL w A ls → RdL w A' (ls.drop k)) := by
  subst hlo
  obtain ⟨i, hi, _, hs, _⟩ := info_parts info_ly
  refine ⟨if c = k then A else A.map (·.add (k * 7)), c - k, fun w => ?_, fun w hr => ?_⟩
  · have ht : Try.prog.underlying 24 = some (.slice (Try.prog.elem 24)) := by rw [Try.underlying24]; rfl
    rw [run_slice_l (P := Try.prog) w 24 A ls.length c ht .i64 (k : Int) (by omega) (by omega)]
    have he : Try.prog.elem 24 = 45 := by unfold Program.elem; rw [Try.underlying24]
    rw [he]
    simp [sizeOf, typeInfo, hi, hs, sliced]
  · intro j x hx
    rw [List.getElem?_drop] at hx
    obtain ⟨g, o, rfl, hl⟩ := hr (k + j) x hx
    have hlt := (List.getElem?_eq_some_iff.1 hx).1
    rw [if_neg (by omega)]
    refine ⟨g, o + k * 7, ?_, ?_⟩
    · simp [Go.WideShapes.add_plain]
    · rw [show o + k * 7 + j * 7 = o + (k + j) * 7 from by omega]
      exact hl
end Go.Proofs.Ytnlikinckmoomaa
