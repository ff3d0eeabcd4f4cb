/- Sums over lists of layers; valid lists. Plain laws. -/
import Derived.Test.YthlandlpjhdbdaaOkL
namespace Go.Proofs.Ythlandlpjhdbdaa
open Go.RowKit
set_option linter.unusedVariables false
def sumF (f : Ly → Int) : List Ly → Int
  | [] => 0
  | x :: l => f x + sumF f l
theorem sumF_app (f : Ly → Int) (l m : List Ly) : sumF f (l ++ m) = sumF f l + sumF f m := by
  induction l with
  | nil => simp [sumF]
  | cons x l ih => simp only [List.cons_append, sumF, ih]; omega
theorem sumF_snoc (f : Ly → Int) (ls : List Ly) (k : Nat) (h : k < ls.length) : sumF f (ls.take (k + 1)) = sumF f (ls.take k) + f ls[k] := by
  rw [List.take_succ_eq_append_getElem h, sumF_app]
  simp [sumF]
theorem sumF_all (f : Ly → Int) (ls : List Ly) : sumF f (ls.take ls.length) = sumF f ls := by rw [List.take_length]
structure VL (ls : List Ly) : Prop where
  len : ls.length ≤ 16
  at_ : ∀ (k : Nat) (x : Ly), ls[k]? = some x → LyB x
theorem VL.of_ok {ls : List Ly} (h : okL ls = true) : VL ls := ⟨okL_len h, fun k x hx => lyOk_b (okL_at h hx)⟩
theorem VL.get {ls : List Ly} (h : VL ls) (k : Nat) (hk : k < ls.length) : LyB ls[k] := h.at_ k _ (List.getElem?_eq_getElem hk)
theorem VL.drop {ls : List Ly} (h : VL ls) (n : Nat) : VL (ls.drop n) := ⟨by rw [List.length_drop]; have := h.len; omega, fun k x hx => h.at_ (n + k) x (by rw [← hx, List.getElem?_drop])⟩
theorem sumF_bd (f : Ly → Int) (m : Int) (hf : ∀ x, LyB x → 0 ≤ f x ∧ f x ≤ m) (hm : 0 ≤ m) : ∀ (ls : List Ly), (∀ x ∈ ls, LyB x) → 0 ≤ sumF f ls ∧ sumF f ls ≤ m * ls.length
  | [], _ => by simp [sumF]
  | x :: l, h => by
    have h1 := hf x (h x (by simp))
    have h2 := sumF_bd f m hf hm l (fun y hy => h y (by simp [hy]))
    have e : m * ((x :: l).length : Nat) = m * (l.length : Int) + m := by rw [List.length_cons]; push_cast; rw [Int.mul_add, Int.mul_one]
    rw [e]
    simp only [sumF]
    omega
theorem VL.mem {ls : List Ly} (h : VL ls) (x : Ly) (hx : x ∈ ls) : LyB x := by
  obtain ⟨k, hk, e⟩ := List.getElem_of_mem hx
  exact e ▸ h.get k hk
theorem VL.sum {ls : List Ly} (h : VL ls) (f : Ly → Int) (m : Int) (hf : ∀ x, LyB x → 0 ≤ f x ∧ f x ≤ m) (hm : 0 ≤ m) (k : Nat) : 0 ≤ sumF f (ls.take k) ∧ sumF f (ls.take k) ≤ m * 16 := by
  have h1 := sumF_bd f m hf hm (ls.take k) (fun x hx => h.mem x (List.mem_of_mem_take hx))
  have h2 : ((ls.take k).length : Int) ≤ 16 := by
    have := h.len
    rw [List.length_take]
    omega
  have h3 : m * ((ls.take k).length : Int) ≤ m * 16 := Int.mul_le_mul_of_nonneg_left h2 hm
  omega
theorem val_int {a b : Int} (h : a = b) : Value.int .i64 a = .int .i64 b := by rw [h]
theorem ret2i {a b c d : Int} (h : a = b) (k : c = d) : Ending.returned (.tuple #[.int .i64 a, .int .i64 c]) = .returned (.tuple #[.int .i64 b, .int .i64 d]) := by rw [h, k]
theorem ret3i {a b c d e f : Int} (h : a = b) (k : c = d) (l : e = f) : Ending.returned (.tuple #[.int .i64 a, .int .i64 c, .int .i64 e]) = .returned (.tuple #[.int .i64 b, .int .i64 d, .int .i64 f]) := by rw [h, k, l]
def valOk (ls : List Ly) (v : Int) : Int := if okL ls then v else 0
def codeOk (ls : List Ly) : Int := if okL ls then 0 else 1
theorem valOk_t {ls : List Ly} (h : okL ls = true) (v : Int) : valOk ls v = v := by unfold valOk; rw [if_pos h]
theorem valOk_f {ls : List Ly} (h : okL ls = false) (v : Int) : valOk ls v = 0 := by unfold valOk; rw [h]; rfl
theorem codeOk_t {ls : List Ly} (h : okL ls = true) : codeOk ls = 0 := by unfold codeOk; rw [if_pos h]
theorem codeOk_f {ls : List Ly} (h : okL ls = false) : codeOk ls = 1 := by unfold codeOk; rw [h]; rfl
end Go.Proofs.Ythlandlpjhdbdaa
