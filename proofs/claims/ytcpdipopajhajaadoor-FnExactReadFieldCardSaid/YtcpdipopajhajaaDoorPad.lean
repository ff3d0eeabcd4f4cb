/- Plain laws of decimal digits: a numeral cut at a place, zeros ahead of it; a number with places as text. No program in sight, no condition. -/
import Derived.Test.YtcpdipopajhajaaDoorTwo
namespace Go.Proofs.YtcpdipopajhajaaDoor
open Go.ChangeShapes Go.WideShapes Go.ChangeAt Go.RowKit
set_option linter.unusedVariables false
theorem eq_of_list {s t : ByteArray} (h : s.data.toList = t.data.toList) : s = t := by
  apply ByteArray.ext
  exact Array.toList_inj.1 h
theorem beq_t {s t : ByteArray} (h : s = t) : (s.toList == t.toList) = true := by subst h; simp
theorem beq_f {s t : ByteArray} (h : ¬ s = t) : (s.toList == t.toList) = false := by
  rw [beq_eq_false_iff_ne, ByteArray.toList_eq, ByteArray.toList_eq]
  exact fun e => h (eq_of_list e)
theorem nil_app' (x : ByteArray) : (⟨#[]⟩ : ByteArray) ++ x = x := by
  apply eq_of_list
  rw [ByteArray.data_append]
  simp
/-- The last p digits of r. -/
def padD : Nat → Nat → List UInt8
  | 0, _ => []
  | p + 1, r => padD p (r / 10) ++ [UInt8.ofNat (48 + r % 10)]
theorem padD_len : ∀ (p r : Nat), (padD p r).length = p
  | 0, r => rfl
  | p + 1, r => by
    unfold padD
    rw [List.length_append, padD_len p]
    rfl
theorem padD_s (p r : Nat) : padD (p + 1) r = padD p (r / 10) ++ [UInt8.ofNat (48 + r % 10)] := rfl
theorem dec_step {u : Nat} (h : 10 ≤ u) : Lib.decDigits u = Lib.decDigits (u / 10) ++ [UInt8.ofNat (48 + u % 10)] := by
  have h10 : ¬ u < 10 := by omega
  conv => lhs; rw [Lib.decDigits, dif_neg h10]
theorem dec_pad : ∀ (p u : Nat), 10 ^ p ≤ u → Lib.decDigits u = Lib.decDigits (u / 10 ^ p) ++ padD p (u % 10 ^ p)
  | 0, u, h => by simp [padD]
  | p + 1, u, h => by
    have e : 10 ^ (p + 1) = 10 * 10 ^ p := by rw [Nat.pow_succ']
    have hp : 1 ≤ 10 ^ p := Nat.pow_pos (by omega)
    rw [e] at h ⊢
    have h1 : 10 ^ p ≤ u / 10 := by omega
    rw [dec_step (by omega), dec_pad p (u / 10) h1, padD_s]
    rw [Nat.div_div_eq_div_mul, Nat.mod_mul_right_div_self, Nat.mod_mul_right_mod, List.append_assoc]
theorem padD_small : ∀ (p u : Nat), u < 10 ^ (p + 1) → padD (p + 1) u = List.replicate (p + 1 - (Lib.decDigits u).length) 48 ++ Lib.decDigits u
  | 0, u, h => by
    have h10 : u < 10 := by simpa using h
    rw [Lib.decDigits_one h10]
    simp [padD, Nat.mod_eq_of_lt h10]
  | p + 1, u, h => by
    have e : 10 ^ (p + 1 + 1) = 10 * 10 ^ (p + 1) := by rw [Nat.pow_succ']
    rw [e] at h
    have ih := padD_small p (u / 10) (by omega)
    have e2 : padD (p + 1 + 1) u = padD (p + 1) (u / 10) ++ [UInt8.ofNat (48 + u % 10)] := rfl
    rw [e2, ih]
    by_cases h10 : u < 10
    · rw [show u / 10 = 0 from by omega, Lib.decDigits_one h10, Lib.decDigits_one (by omega : 0 < 10), Nat.mod_eq_of_lt h10]
      simp only [List.length_cons, List.length_nil]
      rw [show p + 1 + 1 - (0 + 1) = (p + 1 - (0 + 1)) + 1 from by omega, List.replicate_succ']
      rfl
    · rw [dec_step (u := u) (by omega), List.length_append, List.append_assoc]
      simp only [List.length_cons, List.length_nil]
      rw [show p + 1 + 1 - ((Lib.decDigits (u / 10)).length + (0 + 1)) = p + 1 - (Lib.decDigits (u / 10)).length from by omega]
theorem dec_ne (u : Nat) : 1 ≤ (Lib.decDigits u).length := by
  by_cases h : u < 10
  · rw [Lib.decDigits_one h]; simp
  · rw [dec_step (by omega)]; simp
theorem dec0 : Lib.decDigits 0 = [48] := by rw [Lib.decDigits_one (by omega)]; rfl
/-- k zeros ahead of the numeral of m. -/
def zpad (k m : Nat) : List UInt8 := List.replicate k 48 ++ Lib.decDigits m
theorem zpad_0 (m : Nat) : zpad 0 m = Lib.decDigits m := rfl
theorem zpad_len (k m : Nat) : (zpad k m).length = k + (Lib.decDigits m).length := by simp [zpad]
theorem zpad_s (k m : Nat) : [48] ++ zpad k m = zpad (k + 1) m := by simp [zpad, List.replicate_succ]
/-- The digits before and behind the point. -/
theorem zpad_end {p k m : Nat} (hp : 1 ≤ p) (hk : k = 0 ∨ k + (Lib.decDigits m).length ≤ p + 1) (he : p < k + (Lib.decDigits m).length) : zpad k m = Lib.decDigits (m / 10 ^ p) ++ padD p (m % 10 ^ p) := by
  by_cases h : 10 ^ p ≤ m
  · have e := dec_pad p m h
    have hl : (Lib.decDigits m).length = (Lib.decDigits (m / 10 ^ p)).length + p := by
      conv => lhs; rw [e]
      rw [List.length_append, padD_len]
    have := dec_ne (m / 10 ^ p)
    obtain rfl : k = 0 := by omega
    rw [zpad_0]
    exact e
  · obtain ⟨q, rfl⟩ : ∃ q, p = q + 1 := ⟨p - 1, by omega⟩
    have hs := padD_small q m (by omega)
    have hl : (Lib.decDigits m).length ≤ q + 1 := by
      have := congrArg List.length hs
      rw [padD_len, List.length_append] at this
      omega
    rw [Nat.div_eq_of_lt (by omega), Nat.mod_eq_of_lt (by omega), dec0, hs]
    unfold zpad
    rw [show k = (q + 1 - (Lib.decDigits m).length) + 1 from by omega, List.replicate_succ]
    rfl
/-- The places of a number, as the reference gets them. -/
theorem rest_eq {p r : Nat} (h : r < 10 ^ p) : Lib.decDigits (r + 10 ^ p) = 49 :: padD p r := by
  rw [dec_pad p _ (by omega)]
  have hp : 0 < 10 ^ p := by omega
  rw [Nat.add_div_right _ hp, Nat.div_eq_of_lt h, Nat.add_mod_right, Nat.mod_eq_of_lt h, Lib.decDigits_one (by omega)]
  rfl
/-- A number that is not negative, with p places. -/
def fixA (m p : Nat) : List UInt8 := Lib.decDigits (m / 10 ^ p) ++ [46] ++ padD p (m % 10 ^ p)
def fixL (n : Int) (p : Nat) : List UInt8 := (if n < 0 then [45] else []) ++ fixA n.natAbs p
theorem fixL_n {n : Int} (p : Nat) (h : n < 0) : fixL n p = [45] ++ fixA n.natAbs p := by unfold fixL; rw [if_pos h]
theorem fixL_p {n : Int} (p : Nat) (h : ¬ n < 0) : fixL n p = fixA n.natAbs p := by unfold fixL; rw [if_neg h]; rfl
def fixS (n : Int) (p : Nat) : ByteArray := ⟨(fixL n p).toArray⟩
def fixT (n p : Int) : ByteArray := if inB n (-1000000000) 1000000000 && inB p 1 6 then fixS n p.toNat else ⟨#[]⟩
theorem fixT_1 {n p : Int} (h : inB n (-1000000000) 1000000000 = false) : fixT n p = ⟨#[]⟩ := by unfold fixT; rw [h]; rfl
theorem fixT_2 {n p : Int} (h : inB p 1 6 = false) : fixT n p = ⟨#[]⟩ := by unfold fixT; rw [h]; simp
theorem fixT_t {n p : Int} (h : inB n (-1000000000) 1000000000 = true) (k : inB p 1 6 = true) : fixT n p = fixS n p.toNat := by unfold fixT; rw [h, k]; rfl
end Go.Proofs.YtcpdipopajhajaaDoor
