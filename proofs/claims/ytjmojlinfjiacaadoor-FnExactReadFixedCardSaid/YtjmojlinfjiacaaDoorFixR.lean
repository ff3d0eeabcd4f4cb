/- A text read as a number with places: plain laws. No program in sight, no condition. -/
import Derived.Test.YtjmojlinfjiacaaDoorNumT
import Derived.Lib.Replace
import Derived.Lib.TrimByte
namespace Go.Proofs.YtjmojlinfjiacaaDoor
open Go.ChangeShapes Go.WideShapes Go.ChangeAt Go.RowKit
set_option linter.unusedVariables false
/-! ### the library's cuts -/
theorem digit_ne {c : UInt8} (h : isD c = true) : c ≠ 46 ∧ c ≠ 45 := by
  have hy := isD_yes h
  have e46 : ((46 : UInt8).toNat : Int) = 46 := rfl
  have e45 : ((45 : UInt8).toNat : Int) = 45 := rfl
  constructor <;> (intro e; rw [e] at hy; omega)
theorem index_point : ∀ (A B : List UInt8), allD A = true → Lib.index (A ++ 46 :: B) [46] = (A.length : Int)
  | [], B, _ => by rw [Lib.index_one]; simp [Lib.indexByte]
  | c :: A, B, h => by
    have hh : isD c = true ∧ allD A = true := by simpa [allD] using h
    have ih := index_point A B hh.2
    rw [Lib.index_one] at ih ⊢
    have hc := (digit_ne hh.1).1
    show (if c == 46 then (0 : Int) else if Lib.indexByte (A ++ 46 :: B) 46 == -1 then -1 else Lib.indexByte (A ++ 46 :: B) 46 + 1) = _
    rw [ih]
    have h1 : (c == 46) = false := beq_eq_false_iff_ne.2 hc
    have h2 : ((A.length : Int) == -1) = false := by rw [beq_eq_false_iff_ne]; omega
    rw [h1, h2]
    simp
theorem replace_point (A B : List UInt8) (h : allD A = true) : Lib.replace (A ++ 46 :: B) [46] [] 1 = A ++ B := by
  have hi := index_point A B h
  have hc := Lib.count_hit (s := A ++ 46 :: B) (sub := [46]) (i := A.length) (by simp) hi
  have hn : Lib.replaceNum (A ++ 46 :: B) [46] 1 = 1 := by
    unfold Lib.replaceNum
    split
    · rename_i h1
      rcases h1 with h1 | h1 <;> omega
    · rfl
  unfold Lib.replace
  rw [if_neg (by decide), hn, Lib.replaceK_hit [46] [] 0 _ A.length hi]
  simp [Lib.replaceK]
theorem drop_zeros (k : Nat) (l : List UInt8) : Lib.trimLeftB (List.replicate k 48 ++ l) 48 = Lib.trimLeftB l 48 := by
  unfold Lib.trimLeftB
  induction k with
  | zero => rfl
  | succ k ih => rw [List.replicate_succ, List.cons_append, List.dropWhile_cons_of_pos (by decide)]; exact ih
/-! ### the program's reading -/
def orZero (l : List UInt8) : List UInt8 := if l = [] then [48] else l
def dgL (l : List UInt8) : List UInt8 := orZero (Lib.trimLeftB (Lib.replace (bodyL l) [46] [] 1) 48)
def fxVal (l : List UInt8) : Int := if l.head? = some 45 then -rnV (dgL l) else rnV (dgL l)
def xB (s : ByteArray) (p : Int) : Bool := decide (s.data.toList ≠ []) && (numB (dgL s.data.toList) && decide (fixT (fxVal s.data.toList) p = s))
def xV (s : ByteArray) (p : Int) : Int := if xB s p then fxVal s.data.toList else 0
theorem x_t {s : ByteArray} {p : Int} (h : xB s p = true) : xV s p = fxVal s.data.toList ∧ xB s p = true := ⟨by unfold xV; rw [if_pos h], h⟩
theorem x_f {s : ByteArray} {p : Int} (h : xB s p = false) : xV s p = 0 ∧ xB s p = false := ⟨by unfold xV; rw [h]; rfl, h⟩
theorem padD_val : ∀ (p r : Nat), r < 10 ^ p → allD (padD p r) = true ∧ digV (padD p r) = (r : Int)
  | 0, r, h => by simp at h; subst h; exact ⟨rfl, rfl⟩
  | p + 1, r, h => by
    have e : 10 ^ (p + 1) = 10 * 10 ^ p := by rw [Nat.pow_succ']
    rw [e] at h
    obtain ⟨h1, h2⟩ := padD_val p (r / 10) (by omega)
    have hb := digit_byte (r % 10) (by omega)
    rw [padD_s, allD_app, h1, digV_snoc, h2, hb]
    refine ⟨?_, by omega⟩
    simp only [allD, List.all_cons, List.all_nil, Bool.and_true, Bool.true_and]
    exact isD_t (by omega)
theorem trim_dec (m : Nat) : orZero (Lib.trimLeftB (Lib.decDigits m) 48) = Lib.decDigits m := by
  rcases Nat.eq_zero_or_pos m with h | h
  · subst h
    rw [dec0]
    rfl
  · have hh := (dec_allD m).2.2 h
    have hn := dec_ne m
    cases hd : Lib.decDigits m with
    | nil => rw [hd] at hn; simp at hn
    | cons c r =>
      rw [hd] at hh
      have hc : ¬ (c == 48) = true := by
        intro e
        rw [beq_iff_eq] at e
        rw [e] at hh
        exact hh rfl
      unfold Lib.trimLeftB
      rw [List.dropWhile_cons_of_neg (p := fun x => x == 48) hc]
      rfl
theorem fixA_trim {m p : Nat} (hp : 1 ≤ p) : orZero (Lib.trimLeftB (Lib.replace (fixA m p) [46] [] 1) 48) = Lib.decDigits m := by
  obtain ⟨hA, _, _⟩ := dec_allD (m / 10 ^ p)
  have e : fixA m p = Lib.decDigits (m / 10 ^ p) ++ 46 :: padD p (m % 10 ^ p) := by unfold fixA; simp
  have hn := dec_ne m
  have hz := zpad_end (p := p) (k := p + 1 - (Lib.decDigits m).length) (m := m) hp (by omega) (by omega)
  rw [e, replace_point _ _ hA, ← hz]
  unfold zpad
  rw [drop_zeros]
  exact trim_dec m
theorem fixA_head {m p : Nat} : ¬ (fixA m p).head? = some 45 := by
  obtain ⟨hA, _, _⟩ := dec_allD (m / 10 ^ p)
  have hn := dec_ne (m / 10 ^ p)
  unfold fixA
  cases hd : Lib.decDigits (m / 10 ^ p) with
  | nil => rw [hd] at hn; simp at hn
  | cons c r =>
    rw [hd] at hA
    have hh : isD c = true ∧ allD r = true := by simpa [allD] using hA
    simpa using (digit_ne hh.1).2
theorem dec_num {m : Nat} (hm : m ≤ 1000000000) : numB (Lib.decDigits m) = true ∧ rnV (Lib.decDigits m) = (m : Int) := by
  obtain ⟨hA, hV, _⟩ := dec_allD m
  have hn := dec_ne m
  have hl := dec_len_le (p := 9) (u := m) (by omega)
  have h45 : ¬ (Lib.decDigits m).head? = some 45 := by
    cases hd : Lib.decDigits m with
    | nil => simp
    | cons c r =>
      rw [hd] at hA
      have hh : isD c = true ∧ allD r = true := by simpa [allD] using hA
      simpa using (digit_ne hh.1).2
  have hN : numB (Lib.decDigits m) = true := num_of_itoa (v := (m : Int)) (itoa_pos' m) (by rw [body_p h45]; omega)
  exact ⟨hN, by rw [rn_t hN, numV_p h45, hV]⟩
/-- What the program reads out of a number's text is the number. -/
theorem fixL_read {n : Int} {p : Nat} (h0 : -1000000000 ≤ n) (h1 : n ≤ 1000000000) (hp : 1 ≤ p) : numB (dgL (fixL n p)) = true ∧ fxVal (fixL n p) = n := by
  obtain ⟨hN, hV⟩ := dec_num (m := n.natAbs) (by omega)
  by_cases hn : n < 0
  · have e : fixL n p = 45 :: fixA n.natAbs p := by rw [fixL_n p hn]; rfl
    have hd : dgL (fixL n p) = Lib.decDigits n.natAbs := by unfold dgL; rw [e, body_n, fixA_trim hp]
    refine ⟨by rw [hd]; exact hN, ?_⟩
    unfold fxVal
    rw [hd, hV, e]
    rw [if_pos (show (45 :: fixA n.natAbs p).head? = some 45 from rfl)]
    omega
  · have e : fixL n p = fixA n.natAbs p := fixL_p p hn
    have hd : dgL (fixL n p) = Lib.decDigits n.natAbs := by unfold dgL; rw [e, body_p fixA_head, fixA_trim hp]
    refine ⟨by rw [hd]; exact hN, ?_⟩
    unfold fxVal
    rw [hd, hV, e, if_neg fixA_head]
    omega
theorem fixS_list (n : Int) (p : Nat) : (fixS n p).data.toList = fixL n p := rfl
theorem fixA_ne (m p : Nat) : fixA m p ≠ [] := by unfold fixA; simp
theorem fixL_ne (n : Int) (p : Nat) : fixL n p ≠ [] := by unfold fixL; simp [fixA_ne]
/-- A number's text is read as the number. -/
theorem x_of {s : ByteArray} {p : Nat} {n : Int} (h0 : -1000000000 ≤ n) (h1 : n ≤ 1000000000) (hp : 1 ≤ p) (hp6 : p ≤ 6) (h : fixS n p = s) : xB s p = true ∧ fxVal s.data.toList = n := by
  obtain ⟨a, b⟩ := fixL_read h0 h1 hp
  have hl : s.data.toList = fixL n p := by rw [← h]; rfl
  refine ⟨?_, by rw [hl]; exact b⟩
  unfold xB
  rw [hl, a, b, fixT_t (inB_t h0 h1) (inB_t (by omega) (by omega)), Int.toNat_natCast, h]
  simp [fixL_ne]
/-- What is read is the text of a number. -/
theorem x_yes {s : ByteArray} {p : Int} (h : xB s p = true) : ∃ (n : Int) (q : Nat), p = q ∧ 1 ≤ q ∧ q ≤ 6 ∧ -1000000000 ≤ n ∧ n ≤ 1000000000 ∧ fxVal s.data.toList = n ∧ fixS n q = s := by
  unfold xB at h
  simp only [Bool.and_eq_true, decide_eq_true_eq] at h
  obtain ⟨hne, _, he⟩ := h
  rcases hn : inB (fxVal s.data.toList) (-1000000000) 1000000000 with _ | _
  · rw [fixT_1 hn] at he
    rw [← he] at hne
    exact absurd rfl hne
  rcases hp : inB p 1 6 with _ | _
  · rw [fixT_2 hp] at he
    rw [← he] at hne
    exact absurd rfl hne
  obtain ⟨a, b⟩ := inB_yes hn
  obtain ⟨c, d⟩ := inB_yes hp
  obtain ⟨q, rfl⟩ := Int.eq_ofNat_of_zero_le (show 0 ≤ p by omega)
  rw [fixT_t hn hp, Int.toNat_natCast] at he
  exact ⟨_, q, rfl, by omega, by omega, a, b, rfl, he⟩
/-! ### the reference's reading -/
/-- The parts of a number's text, behind a sign of g bytes. -/
structure Parts (s : ByteArray) (p g : Nat) (m : Nat) : Prop where
  sz : s.size ≤ 20
  lo : p + 2 ≤ s.size
  pt : s.data.toList[s.size - p - 1]? = some 46
  lt : g < s.size - p - 1
  dA : digOk (s.extract g (s.size - p - 1)) = true
  dB : digOk (s.extract (s.size - p - 1 + 1) s.size) = true
  vA : digVal (s.extract g (s.size - p - 1)) = ((m / 10 ^ p : Nat) : Int)
  vB : digVal (s.extract (s.size - p - 1 + 1) s.size) = ((m % 10 ^ p : Nat) : Int)
theorem parts_of {s : ByteArray} {p m : Nat} {S : List UInt8} (hS : S.length ≤ 1) (hp : 1 ≤ p) (hp6 : p ≤ 6) (hm : m ≤ 1000000000) (h : s.data.toList = S ++ fixA m p) : Parts s p S.length m := by
  obtain ⟨hA, hV, _⟩ := dec_allD (m / 10 ^ p)
  have hn := dec_ne (m / 10 ^ p)
  have h10 : 10 ≤ 10 ^ p := by
    have := Nat.pow_le_pow_right (n := 10) (by omega) hp
    simpa using this
  have hpos : 0 < 10 ^ p := by omega
  have hq : m / 10 ^ p < 10 ^ (8 + 1) := by
    have : m / 10 ^ p ≤ m / 10 := Nat.div_le_div_left h10 (by omega)
    omega
  have hl := dec_len_le (p := 8) hq
  obtain ⟨hB, hW⟩ := padD_val p (m % 10 ^ p) (Nat.mod_lt _ hpos)
  have hsz : s.size = S.length + (Lib.decDigits (m / 10 ^ p)).length + 1 + p := by
    have := congrArg List.length h
    rw [lst_len, List.length_append] at this
    unfold fixA at this
    simp only [List.length_append, List.length_cons, List.length_nil, padD_len] at this
    omega
  have hat : s.size - p - 1 = S.length + (Lib.decDigits (m / 10 ^ p)).length := by omega
  have hl2 : s.data.toList = (S ++ Lib.decDigits (m / 10 ^ p)) ++ (46 :: padD p (m % 10 ^ p)) := by rw [h]; unfold fixA; simp
  have eA : (s.extract S.length (s.size - p - 1)).data.toList = Lib.decDigits (m / 10 ^ p) := by
    rw [Lib.extract_data, hat, hl2, List.append_assoc, List.drop_left, show S.length + (Lib.decDigits (m / 10 ^ p)).length - S.length = (Lib.decDigits (m / 10 ^ p)).length from by omega, List.take_left]
  have eB : (s.extract (s.size - p - 1 + 1) s.size).data.toList = padD p (m % 10 ^ p) := by
    rw [Lib.extract_data, hl2]
    have e1 : s.size - p - 1 + 1 = (S ++ Lib.decDigits (m / 10 ^ p) ++ [46]).length := by simp; omega
    rw [show (S ++ Lib.decDigits (m / 10 ^ p)) ++ (46 :: padD p (m % 10 ^ p)) = (S ++ Lib.decDigits (m / 10 ^ p) ++ [46]) ++ padD p (m % 10 ^ p) from by simp, e1, List.drop_left]
    rw [List.take_of_length_le (by rw [padD_len]; simp; omega)]
  refine ⟨by omega, by omega, ?_, by omega, by unfold digOk; rw [eA]; exact hA, by unfold digOk; rw [eB]; exact hB, ?_, ?_⟩
  · rw [hat, hl2, List.getElem?_append_right (by simp)]
    simp
  · unfold digVal; rw [eA, (digW_small _ hA (by omega)).1, hV]
  · unfold digVal; rw [eB, (digW_small _ hB (by rw [padD_len]; omega)).1, hW]
theorem parts_n {s : ByteArray} {p : Nat} {n : Int} (hp : 1 ≤ p) (hp6 : p ≤ 6) (h0 : -1000000000 ≤ n) (h1 : n ≤ 1000000000) (h : fixS n p = s) :
    (n < 0 → s.data.toList.head? = some 45 ∧ Parts s p 1 n.natAbs) ∧ (¬ n < 0 → ¬ s.data.toList.head? = some 45 ∧ Parts s p 0 n.natAbs) := by
  have hl : s.data.toList = fixL n p := by rw [← h]; rfl
  refine ⟨fun hn => ?_, fun hn => ?_⟩
  · rw [fixL_n p hn] at hl
    exact ⟨by rw [hl]; rfl, parts_of (S := [45]) (Nat.le_refl _) hp hp6 (by omega) hl⟩
  · rw [fixL_p p hn] at hl
    exact ⟨by rw [hl]; exact fixA_head, parts_of (S := []) (Nat.zero_le _) hp hp6 (by omega) hl⟩
end Go.Proofs.YtjmojlinfjiacaaDoor
