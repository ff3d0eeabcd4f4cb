/- Texts of digits: plain laws, and the contracts of the reference's l02Digits and of the program's digitsOf. No condition. -/
import Derived.Test.YtcpdipopajhajaaDoorBase
namespace Go.Proofs.YtcpdipopajhajaaDoor
open Go.ChangeShapes Go.WideShapes Go.ChangeAt Go.RowKit
set_option linter.unusedVariables false
def isD (c : UInt8) : Bool := decide (48 ≤ (c.toNat : Int) ∧ (c.toNat : Int) ≤ 57)
theorem isD_t {c : UInt8} (h : 48 ≤ (c.toNat : Int) ∧ (c.toNat : Int) ≤ 57) : isD c = true := decide_eq_true h
theorem isD_f {c : UInt8} (h : ¬ (48 ≤ (c.toNat : Int) ∧ (c.toNat : Int) ≤ 57)) : isD c = false := decide_eq_false h
theorem isD_yes {c : UInt8} (h : isD c = true) : 48 ≤ (c.toNat : Int) ∧ (c.toNat : Int) ≤ 57 := of_decide_eq_true h
def stepW (n : Int) (c : UInt8) : Int := wrap64 (wrap64 (10 * n) + ((c.toNat : Int) - 48))
def digW (l : List UInt8) : Int := l.foldl stepW 0
def allD (l : List UInt8) : Bool := l.all isD
def digOk (s : ByteArray) : Bool := allD s.data.toList
def digVal (s : ByteArray) : Int := digW s.data.toList
theorem take_snoc (s : ByteArray) (k : Nat) (h : k < s.size) : s.data.toList.take (k + 1) = s.data.toList.take k ++ [s[k]] := by
  rw [List.take_succ_eq_append_getElem (by simpa using h)]; rfl
theorem digW_snoc (s : ByteArray) (k : Nat) (h : k < s.size) : digW (s.data.toList.take (k + 1)) = wrap64 (wrap64 (10 * digW (s.data.toList.take k)) + ((s[k].toNat : Int) - 48)) := by
  rw [take_snoc s k h]
  simp [digW, List.foldl_append, stepW]
theorem allD_snoc (s : ByteArray) (k : Nat) (h : k < s.size) (ha : allD (s.data.toList.take k) = true) (hb : isD s[k] = true) : allD (s.data.toList.take (k + 1)) = true := by
  unfold allD at *
  rw [take_snoc s k h, List.all_append, ha]
  simp [hb]
theorem allD_bad (s : ByteArray) (k : Nat) (h : k < s.size) (hb : isD s[k] = false) : digOk s = false := by
  unfold digOk allD
  rw [List.all_eq_false]
  refine ⟨s[k], ?_, by simp [hb]⟩
  have : s.data.toList[k]'(by simpa using h) = s[k] := rfl
  rw [← this]
  exact List.getElem_mem _
theorem take_all (s : ByteArray) : s.data.toList.take s.size = s.data.toList := List.take_of_length_le (by simp)
/-! ### short texts do not wrap -/
def digV (l : List UInt8) : Int := l.foldl (fun n c => 10 * n + ((c.toNat : Int) - 48)) 0
theorem dig_fold (l : List UInt8) : ∀ (n b : Int), 0 ≤ n → n < b → allD l = true → b * 10 ^ l.length ≤ 1000000000000000000 →
    l.foldl stepW n = l.foldl (fun n c => 10 * n + ((c.toNat : Int) - 48)) n ∧ 0 ≤ l.foldl (fun n c => 10 * n + ((c.toNat : Int) - 48)) n ∧ l.foldl (fun n c => 10 * n + ((c.toNat : Int) - 48)) n < b * 10 ^ l.length := by
  induction l with
  | nil => intro n b h0 h1 _ _; simp; exact ⟨h0, h1⟩
  | cons c l ih =>
    intro n b h0 h1 ha hb
    have hc : isD c = true ∧ allD l = true := by simpa [allD] using ha
    have hd := isD_yes hc.1
    have hp : (1 : Int) ≤ 10 ^ l.length := by
      have := Nat.one_le_pow l.length 10 (by omega)
      exact_mod_cast this
    have hb2 : (b * 10) * 10 ^ l.length ≤ 1000000000000000000 := by
      rw [List.length_cons, Int.pow_succ, Int.mul_comm (10 ^ l.length) 10, ← Int.mul_assoc] at hb
      exact hb
    have hb3 : b * 10 ≤ (b * 10) * 10 ^ l.length := by
      have := Int.mul_le_mul_of_nonneg_left hp (show 0 ≤ b * 10 by omega)
      omega
    have e : stepW n c = 10 * n + ((c.toNat : Int) - 48) := by
      unfold stepW
      rw [IntWalk.wrap64_in (10 * n) ⟨by omega, by omega⟩, IntWalk.wrap64_in _ ⟨by omega, by omega⟩]
    have := ih (10 * n + ((c.toNat : Int) - 48)) (b * 10) (by omega) (by omega) hc.2 hb2
    simp only [List.foldl_cons, e]
    refine ⟨this.1, this.2.1, ?_⟩
    rw [List.length_cons, Int.pow_succ, Int.mul_comm (10 ^ l.length) 10, ← Int.mul_assoc]
    exact this.2.2
theorem digW_small (l : List UInt8) (h : allD l = true) (hl : l.length ≤ 18) : digW l = digV l ∧ 0 ≤ digV l ∧ digV l < 10 ^ l.length := by
  have hp : (10 : Int) ^ l.length ≤ 10 ^ 18 := by
    have := Nat.pow_le_pow_right (n := 10) (by omega) hl
    exact_mod_cast this
  have := dig_fold l 0 1 (by omega) (by omega) h (by rw [Int.one_mul]; exact Int.le_trans hp (by decide))
  rw [Int.one_mul] at this
  exact this
/-! ### the walks -/
theorem val_i64 {a b : Int} (h : a = b) : Value.int .i64 a = .int .i64 b := by rw [h]
theorem digit_any (c : Int) (w : World) : Calls Tryd.prog 53 #[.int .u8 c] w fun e w' => e = .returned (.bool (inB c 48 57)) ∧ w = w' := by
  by_cases h1 : 48 ≤ c
  · by_cases h2 : c ≤ 57
    · go_enter Tryd.func53, Tryd.ntmps53
      go_wp2
      go_ret
      exact ⟨(ret_bool (inB_t h1 h2)).symm, rfl⟩
    · go_enter Tryd.func53, Tryd.ntmps53
      go_wp2
      go_ret
      exact ⟨(ret_bool (inB_f (by omega))).symm, rfl⟩
  · go_enter Tryd.func53, Tryd.ntmps53
    go_wp2
    go_ret
    exact ⟨(ret_bool (inB_f (by omega))).symm, rfl⟩
end Go.Proofs.YtcpdipopajhajaaDoor
