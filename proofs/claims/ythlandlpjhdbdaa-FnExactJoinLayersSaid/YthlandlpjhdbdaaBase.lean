/- Small laws that all texts of this seat use: a number between bounds as a Bool; Below's steps with the base at the heap's size; an index into an array of one-cell elements. No condition. -/
import Derived.Test.YthlandlpjhdbdaaRows
import Derived.WalkKit
import Derived.ProofKit
import Derived.OpenShut
import Derived.ShutString
import Derived.ChangeOld
import Derived.Below
import Derived.ChangeKeysEq
import Derived.Deep.Draws
import Derived.Lib.Hide
namespace Go.Proofs.Ythlandlpjhdbdaa
open Go.ChangeShapes Go.WideShapes Go.ChangeAt Go.RowKit
/-! ### bounds -/
def inB (n l h : Int) : Bool := decide (l ≤ n ∧ n ≤ h)
theorem inB_t {n l h : Int} (a : l ≤ n) (b : n ≤ h) : inB n l h = true := by unfold inB; exact decide_eq_true ⟨a, b⟩
theorem inB_f {n l h : Int} (a : n < l ∨ h < n) : inB n l h = false := by unfold inB; exact decide_eq_false (by omega)
theorem inB_yes {n l h : Int} (a : inB n l h = true) : l ≤ n ∧ n ≤ h := by unfold inB at a; exact of_decide_eq_true a
theorem inB_no {n l h : Int} (a : inB n l h = false) : n < l ∨ h < n := by unfold inB at a; have := of_decide_eq_false a; omega
theorem ret_bool {a b : Bool} (h : a = b) : Ending.returned (.bool a) = .returned (.bool b) := by rw [h]
theorem ret_int {k : IntKind} {a b : Int} (h : a = b) : Ending.returned (.int k a) = .returned (.int k b) := by rw [h]
theorem ret_str {a b : ByteArray} (h : a = b) : Ending.returned (.string a) = .returned (.string b) := by rw [h]
theorem wf_lo {a : Int} (h : (Lit.int .i64 a).wf = true) : -9223372036854775808 ≤ a := (bounds_i64 h).1
theorem wf_hi {a : Int} (h : (Lit.int .i64 a).wf = true) : a ≤ 9223372036854775807 := (bounds_i64 h).2
/-! ### Below -/
theorem bl_alloc {w a : World} (h : Below w.heap.size w a) (o : Obj) : Below w.heap.size w (a.alloc o) := h.alloc h.size o
theorem bl_trans {w a b : World} (h : Below w.heap.size w a) (k : Below a.heap.size a b) : Below w.heap.size w b := h.trans (k.mono h.size)
theorem bl_drewN {w a : World} (h : Below w.heap.size w a) (n : Nat) : Below w.heap.size w (a.drewN n) := ⟨h.os, h.tape, h.output, h.size, h.block⟩
theorem bl_set {w a : World} (h : Below w.heap.size w a) (b o : Nat) (hb : w.heap.size ≤ b) (u : Value) : Below w.heap.size w (a.setCell ⟨b, o, none⟩ u) := h.setCell (p := ⟨b, o, none⟩) hb u
theorem bl_setNew {w a : World} (h : Below w.heap.size w a) (o : Nat) (u : Value) : Below w.heap.size w (a.setCell ⟨w.heap.size, o, none⟩ u) := h.setCell (p := ⟨w.heap.size, o, none⟩) (Nat.le_refl _) u
/-! ### an index into an array of one-cell elements -/
theorem run_index_arr1 {P : Program} {t e : TypeId} {n : Nat} {cs : Array Value} {k : IntKind} {i : Int} {inf : TypeInfo} (w : World)
    (ht : P.underlying t = some (.array n e)) (hi : P.info? e = some inf) (hs : inf.size = 1) (he : P.plainKey e = true) (hc : cs.size = n) (h0 : 0 ≤ i) (h1 : i < n) :
    (Instr.index t (.agg cs) (.int k i)).run P w = .ok (cs.getD i.toNat undef) w := by
  have hx : cs[i.toNat * inf.size]? = some (cs.getD i.toNat undef) := by
    rw [hs, Nat.mul_one, Array.getElem?_eq_getElem (by omega), Array.getD_eq_getD_getElem?, Array.getElem?_eq_getElem (by omega)]; rfl
  have hh : (0 ≤ i ∧ i < (n : Int)) := ⟨h0, h1⟩
  simp [Instr.index, asIntOf, run_underlying ht, hh, sizeOf, typeInfo, hi, run_part_plain (w := w) he hx]
theorem index_arr {P : Program} {t e : TypeId} {n : Nat} (ht : P.underlying t = some (.array n e)) (hi : (P.info? e).map (fun i => i.size) = some 1) (he : P.plainKey e = true) (cs : Array Value) (i : Int) (w : World) (hc : cs.size = n) (h0 : 0 ≤ i) (h1 : i < n) :
    (Instr.index t (.agg cs) (.int .i64 i)).run P w = .ok (cs.getD i.toNat undef) w := by
  rw [Option.map_eq_some_iff] at hi
  obtain ⟨inf, hi, hs⟩ := hi
  exact run_index_arr1 w ht hi hs he hc h0 h1
/-! ### bounds: the two functions -/
theorem within_any (n l h : Int) (w : World) : Calls Try.prog 17 #[.int .i64 n, .int .i64 l, .int .i64 h] w fun e w' => e = .returned (.bool (inB n l h)) ∧ w = w' := by
  by_cases h1 : l ≤ n
  · by_cases h2 : n ≤ h
    · go_enter Try.func17, Try.ntmps17
      go_wp2
      go_ret
      exact ⟨(ret_bool (inB_t h1 h2)).symm, rfl⟩
    · go_enter Try.func17, Try.ntmps17
      go_wp2
      go_ret
      exact ⟨(ret_bool (inB_f (by omega))).symm, rfl⟩
  · go_enter Try.func17, Try.ntmps17
    go_wp2
    go_ret
    exact ⟨(ret_bool (inB_f (by omega))).symm, rfl⟩
theorem l00In_any (n l h : Int) (w : World) : Calls Try.prog 12 #[.int .i64 n, .int .i64 l, .int .i64 h] w fun e w' => e = .returned (.bool (inB n l h)) ∧ w = w' := by
  by_cases h1 : l ≤ n
  · by_cases h2 : n ≤ h
    · go_enter Try.func12, Try.ntmps12
      go_wp2
      go_ret
      exact ⟨(ret_bool (inB_t h1 h2)).symm, rfl⟩
    · go_enter Try.func12, Try.ntmps12
      go_wp2
      go_ret
      exact ⟨(ret_bool (inB_f (by omega))).symm, rfl⟩
  · go_enter Try.func12, Try.ntmps12
    go_wp2
    go_ret
    exact ⟨(ret_bool (inB_f (by omega))).symm, rfl⟩
end Go.Proofs.Ythlandlpjhdbdaa
