/- A text read as a number: plain laws. No program in sight, no condition. -/
import Derived.Test.YtcpdipopajhajaaDoorDigP
import Derived.Lib.AtoiTie
import Derived.Lib.ParseIntBTie
namespace Go.Proofs.YtcpdipopajhajaaDoor
open Go.ChangeShapes Go.WideShapes Go.ChangeAt Go.RowKit
set_option linter.unusedVariables false
/-! ### the digits of a numeral -/
theorem dec_allD : ∀ u : Nat, allD (Lib.decDigits u) = true ∧ digV (Lib.decDigits u) = (u : Int) ∧ (0 < u → (Lib.decDigits u).head? ≠ some 48) := fun u => by
  induction u using Nat.strongRecOn with
  | _ u ih =>
    by_cases h : u < 10
    · rw [Lib.decDigits_one h]
      have hb := digit_byte u h
      refine ⟨by simp only [allD, List.all_cons, List.all_nil, Bool.and_true]; exact isD_t (by omega), by simp only [digV, List.foldl_cons, List.foldl_nil]; omega, fun h0 e => ?_⟩
      simp only [List.head?_cons, Option.some.injEq] at e
      rw [e] at hb
      have : ((48 : UInt8).toNat : Int) = 48 := rfl
      omega
    · obtain ⟨h1, h2, h3⟩ := ih (u / 10) (by omega)
      rw [dec_step (by omega)]
      have hb := digit_byte (u % 10) (by omega)
      refine ⟨?_, ?_, fun _ => ?_⟩
      · rw [allD_app, h1]
        simp only [allD, List.all_cons, List.all_nil, Bool.and_true, Bool.true_and]
        exact isD_t (by omega)
      · rw [digV_snoc, h2, hb]
        omega
      · have h4 := h3 (by omega)
        have h5 := dec_ne (u / 10)
        cases hl : Lib.decDigits (u / 10) with
        | nil => rw [hl] at h5; simp at h5
        | cons a r => rw [hl] at h4; simpa using h4
/-- Digits without a leading zero are their number's numeral. -/
theorem dec_head {p : Nat} {l : List UInt8} (hl : l.length = p + 1) (ha : allD l = true) (hb : (digV l).toNat < 10 ^ (p + 1)) (h0 : l.head? = some 48 → l.length = 1) : Lib.decDigits (digV l).toNat = l := by
  have h1 := (digV_nn (p + 1) l hl ha).2
  have h2 := padD_small p _ hb
  rw [h1] at h2
  have h3 := dec_ne (digV l).toNat
  rcases Nat.eq_zero_or_pos (p + 1 - (Lib.decDigits (digV l).toNat).length) with e | e
  · rw [e] at h2; exact h2.symm
  · have hd : l.head? = some 48 := by
      rw [h2]
      obtain ⟨q, hq⟩ : ∃ q, p + 1 - (Lib.decDigits (digV l).toNat).length = q + 1 := ⟨_, (Nat.succ_pred_eq_of_pos e).symm⟩
      rw [hq, List.replicate_succ]
      rfl
    have := h0 hd
    omega
theorem decFrom_dig : ∀ (l : List UInt8) (acc : Nat), allD l = true → Lib.decFrom acc l = some (l.foldl (fun (n : Int) c => 10 * n + ((c.toNat : Int) - 48)) (acc : Int)).toNat
  | [], acc, _ => by simp [Lib.decFrom]
  | c :: r, acc, h => by
    have hh : isD c = true ∧ allD r = true := by simpa [allD] using h
    have hc := isD_yes hh.1
    have e : Lib.digitVal c = some (c.toNat - 48) := by unfold Lib.digitVal; rw [if_pos (by omega)]
    simp only [Lib.decFrom, e, List.foldl_cons]
    rw [decFrom_dig r _ hh.2]
    have : (10 * (acc : Int) + ((c.toNat : Int) - 48)) = ((acc * 10 + (c.toNat - 48) : Nat) : Int) := by push_cast; omega
    rw [this]
theorem decNat_dig {l : List UInt8} (h : allD l = true) (h0 : l ≠ []) : Lib.decNat l = some (digV l).toNat := by
  unfold Lib.decNat
  rw [if_neg (by simpa using h0), decFrom_dig l 0 h]
  rfl
/-! ### the text of a number -/
def bodyL (l : List UInt8) : List UInt8 := if l.head? = some 45 then l.tail else l
def numB (l : List UInt8) : Bool := decide (bodyL l ≠ [] ∧ (bodyL l).length ≤ 18 ∧ ¬ ((bodyL l).head? = some 48 ∧ 1 < l.length)) && allD (bodyL l)
def numV (l : List UInt8) : Int := if l.head? = some 45 then -digV (bodyL l) else digV (bodyL l)
theorem body_n (r : List UInt8) : bodyL (45 :: r) = r := rfl
theorem body_p {l : List UInt8} (h : ¬ l.head? = some 45) : bodyL l = l := by unfold bodyL; rw [if_neg h]
theorem numV_n (r : List UInt8) : numV (45 :: r) = -digV r := rfl
theorem numV_p {l : List UInt8} (h : ¬ l.head? = some 45) : numV l = digV l := by unfold numV; rw [if_neg h, body_p h]
theorem trim_body (l : List UInt8) : Lib.trimPrefix l [45] = bodyL l := by
  unfold Lib.trimPrefix Lib.hasPrefix bodyL
  cases l with
  | nil => rfl
  | cons c r =>
    by_cases h : c = 45
    · subst h; simp
    · have h' : ¬ (45 : UInt8) = c := fun e => h e.symm
      simp [h, h']
theorem head45 {l : List UInt8} (h : l.head? = some 45) : ∃ r, l = 45 :: r := by
  cases l with
  | nil => simp at h
  | cons c r => simp at h; exact ⟨r, by rw [h]⟩
theorem numB_yes {l : List UInt8} (h : numB l = true) : bodyL l ≠ [] ∧ (bodyL l).length ≤ 18 ∧ ¬ ((bodyL l).head? = some 48 ∧ 1 < l.length) ∧ allD (bodyL l) = true := by
  unfold numB at h
  rw [Bool.and_eq_true, decide_eq_true_eq] at h
  exact ⟨h.1.1, h.1.2.1, h.1.2.2, h.2⟩
theorem numB_mk {l : List UInt8} (a : bodyL l ≠ []) (b : (bodyL l).length ≤ 18) (c : ¬ ((bodyL l).head? = some 48 ∧ 1 < l.length)) (d : allD (bodyL l) = true) : numB l = true := by
  unfold numB
  rw [Bool.and_eq_true, decide_eq_true_eq]
  exact ⟨⟨a, b, c⟩, d⟩
theorem len_pos {l : List UInt8} (h : l ≠ []) : ∃ p, l.length = p + 1 := by
  cases l with
  | nil => exact absurd rfl h
  | cons c r => exact ⟨r.length, rfl⟩
theorem d_bd {l : List UInt8} (ha : allD l = true) (hl : l.length ≤ 18) : 0 ≤ digV l ∧ (digV l).toNat < 10 ^ l.length ∧ digV l < 1000000000000000000 := by
  obtain ⟨_, h1, h2⟩ := dig_bd l ha l.length rfl hl
  have hp : 10 ^ l.length ≤ 10 ^ 18 := Nat.pow_le_pow_right (by omega) hl
  have e18 : (10 : Nat) ^ 18 = 1000000000000000000 := by decide
  exact ⟨h1, h2, by omega⟩
/-- A number's text gives the number's numeral. -/
theorem num_itoa {l : List UInt8} (h : numB l = true) : Lib.itoa (numV l) = l := by
  obtain ⟨h0, h1, h2, h3⟩ := numB_yes h
  by_cases h45 : l.head? = some 45
  · obtain ⟨r, rfl⟩ := head45 h45
    rw [body_n] at h0 h1 h2 h3
    rw [numV_n]
    obtain ⟨p, hp⟩ := len_pos h0
    obtain ⟨b0, b1, _⟩ := d_bd h3 h1
    have hh : ¬ r.head? = some 48 := fun e => h2 ⟨e, by simp; omega⟩
    have hd := dec_head hp h3 (by rw [← hp]; exact b1) (fun e => absurd e hh)
    obtain ⟨u, hu⟩ := Int.eq_ofNat_of_zero_le b0
    rw [hu, Int.toNat_natCast] at hd
    have hu0 : 0 < u := by
      rcases Nat.eq_zero_or_pos u with e | e
      · subst e
        rw [dec0] at hd
        rw [← hd] at hh
        exact absurd rfl hh
      · exact e
    rw [hu, itoa_neg' u hu0, hd]
  · rw [body_p h45] at h0 h1 h2 h3
    rw [numV_p h45]
    obtain ⟨p, hp⟩ := len_pos h0
    obtain ⟨b0, b1, _⟩ := d_bd h3 h1
    have hd := dec_head hp h3 (by rw [← hp]; exact b1) (fun e => by
      rcases Nat.lt_or_ge 1 l.length with k | k
      · exact absurd ⟨e, k⟩ h2
      · omega)
    obtain ⟨u, hu⟩ := Int.eq_ofNat_of_zero_le b0
    rw [hu, Int.toNat_natCast] at hd
    rw [hu, itoa_pos', hd]
/-- .. and is parsed as that number. -/
theorem num_parse {l : List UInt8} (h : numB l = true) : Lib.parseIntB 64 l = .ok (numV l) := by
  obtain ⟨h0, h1, h2, h3⟩ := numB_yes h
  rw [Lib.parseIntB_64]
  by_cases h45 : l.head? = some 45
  · obtain ⟨r, rfl⟩ := head45 h45
    rw [body_n] at h0 h1 h2 h3
    rw [numV_n, Lib.atoiAll_minus, Lib.signed_short h1, decNat_dig h3 h0]
    obtain ⟨b0, _, _⟩ := d_bd h3 h1
    show Lib.NumEnd.ok (-(((digV r).toNat : Nat) : Int)) = _
    rw [Int.toNat_of_nonneg b0]
  · rw [body_p h45] at h0 h1 h2 h3
    rw [numV_p h45]
    obtain ⟨b0, _, _⟩ := d_bd h3 h1
    cases l with
    | nil => exact absurd rfl h0
    | cons c r =>
      have hc : isD c = true := by
        have : isD c = true ∧ allD r = true := by simpa [allD] using h3
        exact this.1
      have hy := isD_yes hc
      rw [Lib.atoiAll_plain c r (by omega) (by omega), Lib.signless_short h1, decNat_dig h3 h0]
      show Lib.NumEnd.ok ((((digV (c :: r)).toNat : Nat) : Int)) = _
      rw [Int.toNat_of_nonneg b0]
/-- Whatever has a short numeral for its text is that number's text. -/
theorem num_of_itoa {l : List UInt8} {v : Int} (h : Lib.itoa v = l) (hl : (bodyL l).length ≤ 18) : numB l = true := by
  by_cases hv : v < 0
  · obtain ⟨u, rfl⟩ : ∃ u : Nat, v = -(u : Int) := ⟨v.natAbs, by omega⟩
    rw [itoa_neg' u (by omega)] at h
    subst h
    rw [body_n] at hl
    obtain ⟨a, _, c⟩ := dec_allD u
    refine numB_mk ?_ ?_ ?_ ?_
    · rw [body_n]; intro e; have := dec_ne u; rw [e] at this; simp at this
    · rw [body_n]; exact hl
    · rw [body_n]; exact fun e => c (by omega) e.1
    · rw [body_n]; exact a
  · obtain ⟨u, rfl⟩ := Int.eq_ofNat_of_zero_le (show 0 ≤ v by omega)
    rw [itoa_pos'] at h
    subst h
    obtain ⟨a, _, c⟩ := dec_allD u
    have h45 : ¬ (Lib.decDigits u).head? = some 45 := by
      cases hd : Lib.decDigits u with
      | nil => simp
      | cons x r =>
        rw [hd] at a
        have : isD x = true ∧ allD r = true := by simpa [allD] using a
        have hy := isD_yes this.1
        simp only [List.head?_cons, Option.some.injEq]
        intro e
        rw [e] at hy
        have : ((45 : UInt8).toNat : Int) = 45 := rfl
        omega
    rw [body_p h45] at hl
    refine numB_mk ?_ ?_ ?_ ?_
    · rw [body_p h45]; intro e; have := dec_ne u; rw [e] at this; simp at this
    · rw [body_p h45]; exact hl
    · rw [body_p h45]
      intro e
      rcases Nat.eq_zero_or_pos u with k | k
      · subst k
        rw [dec0] at e
        simp at e
      · exact c k e.1
    · rw [body_p h45]; exact a
end Go.Proofs.YtcpdipopajhajaaDoor
