/- Plain laws that tie the digits of a text to the number's numeral. No program in sight, no condition. -/
import Derived.Test.YtcpdipopajhajaaDoorPad
import Derived.Test.YtcpdipopajhajaaDoorDigits
import Derived.Lib.Strings
namespace Go.Proofs.YtcpdipopajhajaaDoor
open Go.ChangeShapes Go.WideShapes Go.ChangeAt Go.RowKit
set_option linter.unusedVariables false
theorem digV_snoc (l : List UInt8) (c : UInt8) : digV (l ++ [c]) = 10 * digV l + ((c.toNat : Int) - 48) := by
  unfold digV
  rw [List.foldl_append]
  rfl
theorem allD_app (l m : List UInt8) : allD (l ++ m) = (allD l && allD m) := by unfold allD; rw [List.all_append]
theorem digV_nn : ∀ (n : Nat) (l : List UInt8), l.length = n → allD l = true → 0 ≤ digV l ∧ padD n (digV l).toNat = l
  | 0, l, hl, _ => by
    obtain rfl : l = [] := List.length_eq_zero_iff.1 hl
    exact ⟨by decide, rfl⟩
  | n + 1, l, hl, ha => by
    obtain ⟨k, c, rfl⟩ : ∃ k c, l = k ++ [c] := by
      rcases List.eq_nil_or_concat l with h | ⟨k, c, h⟩
      · rw [h] at hl; simp at hl
      · exact ⟨k, c, by rw [h, List.concat_eq_append]⟩
    rw [allD_app, Bool.and_eq_true] at ha
    obtain ⟨h0, h1⟩ := digV_nn n k (by simpa using hl) ha.1
    have hc := isD_yes (c := c) (by simpa [allD] using ha.2)
    rw [digV_snoc]
    refine ⟨by omega, ?_⟩
    rw [padD_s]
    have e1 : (10 * digV k + ((c.toNat : Int) - 48)).toNat / 10 = (digV k).toNat := by omega
    have e2 : 48 + (10 * digV k + ((c.toNat : Int) - 48)).toNat % 10 = c.toNat := by omega
    rw [e1, e2, h1]
    simp
theorem dec_len {p u : Nat} (h : 10 ^ p ≤ u) : p + 1 ≤ (Lib.decDigits u).length := by
  rw [dec_pad p u h, List.length_append, padD_len]
  have := dec_ne (u / 10 ^ p)
  omega
theorem dec_len_le {p u : Nat} (h : u < 10 ^ (p + 1)) : (Lib.decDigits u).length ≤ p + 1 := by
  have := congrArg List.length (padD_small p u h)
  rw [padD_len, List.length_append] at this
  omega
/-- p + 1 digits whose number needs them all are its numeral. -/
theorem dec_of_digits {p : Nat} {l : List UInt8} (hl : l.length = p + 1) (ha : allD l = true) (hu : 10 ^ p ≤ (digV l).toNat) (hb : (digV l).toNat < 10 ^ (p + 1)) : Lib.decDigits (digV l).toNat = l := by
  have h1 := (digV_nn (p + 1) l hl ha).2
  have h2 := padD_small p _ hb
  have h3 := dec_len hu
  rw [h1, show p + 1 - (Lib.decDigits (digV l).toNat).length = 0 from by omega] at h2
  exact h2.symm
theorem two_pad {n : Int} (h0 : 0 ≤ n) (h1 : n < 100) : two n = padD 2 n.toNat := by
  unfold two
  rw [padD_s, padD_s]
  simp only [padD, List.nil_append, List.cons_append]
  rw [show n.toNat / 10 % 10 = (n / 10).toNat from by omega, show n.toNat % 10 = (n % 10).toNat from by omega]
theorem two_of_digits {a b : UInt8} (h : allD [a, b] = true) (h1 : digV [a, b] < 100) : two (digV [a, b]) = [a, b] := by
  obtain ⟨h0, h2⟩ := digV_nn 2 [a, b] rfl h
  rw [two_pad h0 h1, h2]
theorem dig_bd (l : List UInt8) (ha : allD l = true) (n : Nat) (hl : l.length = n) (hn : n ≤ 18) : digW l = digV l ∧ 0 ≤ digV l ∧ (digV l).toNat < 10 ^ n := by
  obtain ⟨h1, h2, h3⟩ := digW_small l ha (by omega)
  refine ⟨h1, h2, ?_⟩
  rw [hl] at h3
  have : ((digV l).toNat : Int) < ((10 ^ n : Nat) : Int) := by push_cast; omega
  exact_mod_cast this
end Go.Proofs.YtcpdipopajhajaaDoor
