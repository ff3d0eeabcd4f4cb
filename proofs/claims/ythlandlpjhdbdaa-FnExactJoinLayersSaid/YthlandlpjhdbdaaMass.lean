/- Masses of lists of layers: the contracts of MassOf, LoadAbove and what they call, on both sides. -/
import Derived.Test.YthlandlpjhdbdaaSum
import Derived.Deep.QuietTactic
import Derived.BigQuiet
namespace Go.Proofs.Ythlandlpjhdbdaa
open Go.ChangeShapes Go.WideShapes Go.ChangeAt Go.RowKit Go.Joins Go.Deep
set_option linter.unusedVariables false
theorem ice_bd {x : Ly} (h : LyB x) : 0 ≤ x.ice ∧ x.ice ≤ 1000000 := ⟨by have := h.i0; omega, h.i1⟩
theorem water_bd {x : Ly} (h : LyB x) : 0 ≤ x.water ∧ x.water ≤ 1000000 := ⟨h.w0, h.w1⟩
def massF (x : Ly) : Int := x.ice + x.water
theorem mass_bd {x : Ly} (h : LyB x) : 0 ≤ massF x ∧ massF x ≤ 2000000 := by
  have := ice_bd h
  have := water_bd h
  unfold massF
  omega
theorem sumF_mass (ls : List Ly) : sumF Ly.ice ls + sumF Ly.water ls = sumF massF ls := by
  induction ls with
  | nil => rfl
  | cons x l ih => simp only [sumF, massF] at *; omega
/-! ### 'list[k:]' -/
theorem slice_from (A : Option Addr) (c : Nat) (ls : List Ly) (k : Nat) (lo : Int) (hlo : lo = (k : Int)) (hk : k ≤ ls.length) (hc : ls.length ≤ c) :
    ∃ A' c', (∀ w : World, (Instr.slice 24 (.slice A ls.length c) (some (.int .i64 lo)) none none).run Try.prog w = .ok (.slice A' (ls.drop k).length c') w) ∧ (∀ w : World, RdL w A ls → RdL w A' (ls.drop k)) := by
  subst hlo
  obtain ⟨i, hi, _, hs, _⟩ := info_parts info_ly
  refine ⟨if c = k then A else A.map (·.add (k * 7)), c - k, fun w => ?_, fun w hr => ?_⟩
  · have ht : Try.prog.underlying 24 = some (.slice (Try.prog.elem 24)) := by rw [Try.underlying24]; rfl
    rw [run_slice_l (P := Try.prog) w 24 A ls.length c ht .i64 (k : Int) (by omega) (by omega)]
    have he : Try.prog.elem 24 = 34 := by unfold Program.elem; rw [Try.underlying24]
    rw [he]
    simp [sizeOf, typeInfo, hi, hs, sliced]
  · intro j x hx
    rw [List.getElem?_drop] at hx
    obtain ⟨g, o, rfl, hl⟩ := hr (k + j) x hx
    have hlt := (List.getElem?_eq_some_iff.1 hx).1
    rw [if_neg (by omega)]
    refine ⟨g, o + k * 7, ?_, ?_⟩
    · simp [Go.WideShapes.add_plain]
    · rw [show o + k * 7 + j * 7 = o + (k + j) * 7 from by omega]
      exact hl
end Go.Proofs.Ythlandlpjhdbdaa
