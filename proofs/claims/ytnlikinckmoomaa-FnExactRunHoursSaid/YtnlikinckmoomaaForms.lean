/- The forms of the next hour: the contracts of the program's and of the reference's ChangeForms and what they call. -/
import Derived.Test.YtnlikinckmoomaaDrain
import Derived.Test.YtnlikinckmoomaaGrad
import Derived.Test.YtnlikinckmoomaaHeight
import Derived.Deep.DeepCutAuto
namespace Go.Proofs.Ytnlikinckmoomaa
open Go.ChangeShapes Go.WideShapes Go.ChangeAt Go.RowKit Go.Joins Go.Deep
set_option linter.unusedVariables false
def nextF (x : Ly) (g : Int) : Int := if 0 < x.water ∨ x.form = 6 then 6 else if 2000 ≤ g ∧ 72 ≤ x.age then 5 else if 1000 ≤ g ∧ 24 ≤ x.age then 4 else if x.form = 1 ∧ 48 ≤ x.age then 2 else if x.form = 2 ∧ 120 ≤ x.age then 3 else x.form
set_option maxHeartbeats 4000000 in
theorem nextForm_any (x : Ly) (g : Int) (w : World) : Calls Try.prog 79 #[.agg #[.int .i64 x.form, .int .i64 x.ice, .int .i64 x.water, .int .i64 x.dens, .int .i64 x.deg, .int .i64 x.hard, .int .i64 x.age], .int .i64 g] w fun e w' => e = .returned (.int .i64 (nextF x g)) ∧ Below w.heap.size w w' := by
  go_enter Try.func79, Try.ntmps79
  go_wp2
  all_goals
    go_ret
    exact ⟨ret_int (by (try simp only [beq_iff_eq, beq_eq_false_iff_ne, ne_eq] at *); unfold nextF; (repeat (first | rw [if_pos (by omega)] | rw [if_neg (by omega)])); try omega), by repeat (first | exact Below.refl _ _ | apply bl_alloc)⟩
def steepF (ls : List Ly) (k : Nat) : Int :=
  if h : k + 1 < ls.length then (if k = 0 then absI (gradF (ls[k]'(by omega)) ls[k + 1]) else maxI (absI (gradF (ls[k]'(by omega)) ls[k + 1])) (absI (gradF (ls[k - 1]'(by omega)) (ls[k]'(by omega)))))
  else (if h2 : 0 < k ∧ k < ls.length then absI (gradF (ls[k - 1]'(by omega)) (ls[k]'(by omega))) else 0)
theorem maxI_abs (g : Int) : maxI g (-g) = absI g := by unfold maxI absI; split <;> split <;> omega
theorem absI_nn (g : Int) : 0 ≤ absI g := by unfold absI; split <;> omega
theorem maxI_0 {a : Int} (h : 0 ≤ a) : maxI 0 a = a := by unfold maxI; split <;> omega
theorem maxI_c (a b : Int) : maxI a b = maxI b a := by unfold maxI; split <;> split <;> omega
theorem steep_1 {ls : List Ly} {k : Nat} (h1 : k + 1 < ls.length) (h2 : k < ls.length) (h3 : k = 0) : steepF ls k = absI (gradF ls[k] ls[k + 1]) := by unfold steepF; rw [dif_pos h1, if_pos h3]
theorem steep_2 {ls : List Ly} {k : Nat} (h1 : k + 1 < ls.length) (h2 : k < ls.length) (h3 : ¬ k = 0) (h4 : k - 1 < ls.length) : steepF ls k = maxI (absI (gradF ls[k - 1] ls[k])) (absI (gradF ls[k] ls[k + 1])) := by unfold steepF; rw [dif_pos h1, if_neg h3, maxI_c]
theorem steep_3 {ls : List Ly} {k : Nat} (h1 : ¬ k + 1 < ls.length) (h2 : k < ls.length) (h3 : ¬ k = 0) (h4 : k - 1 < ls.length) : steepF ls k = absI (gradF ls[k - 1] ls[k]) := by unfold steepF; rw [dif_neg h1, dif_pos ⟨by omega, h2⟩]
theorem steep_0 {ls : List Ly} {k : Nat} (h1 : ¬ k + 1 < ls.length) (h2 : k < ls.length) (h3 : k = 0) : steepF ls k = 0 := by unfold steepF; rw [dif_neg h1, dif_neg (by omega)]
set_option maxRecDepth 100000 in
set_option maxHeartbeats 8000000 in
theorem l05Form_any (A : Option Addr) (c : Nat) (ls : List Ly) (k : Nat) (hk : k < ls.length) (w : World) (hr : RdL w A ls) (V : VL ls) :
    Calls Try.prog 77 #[.slice A ls.length c, .int .i64 k] w fun e w' => e = .returned (.int .i64 (nextF ls[k] (steepF ls k))) ∧ ∃ n, w' = w.drewN n := by
  have h16 := V.len
  obtain ⟨g, o, rfl, hx⟩ := hr.at_ k hk
  have HX := Lib.hid hx
  have HR := Lib.hid hr
  clear hx
  by_cases h3 : k = 0 <;> by_cases h1 : k + 1 < ls.length
  · have HS := Lib.hid (steep_1 h1 hk h3)
    obtain ⟨b0, b1⟩ := gradF_bd (V.get k hk) (V.get (k + 1) h1)
    have HGn : Hid (∀ W : World, RdL W (some ⟨g, o, none⟩) ls → Calls Try.prog 83 #[.slice (some ⟨g, o, none⟩) ls.length c, .int .i64 (k : Int)] W fun e w' => e = .returned (.int .i64 (gradF ls[k] ls[k + 1])) ∧ ∃ n, w' = W.drewN n) := Lib.hid fun W h => l05Gradient_any _ c ls k h1 hk W h V
    have MN := Lib.hid (maxI_abs (gradF ls[k] ls[k + 1]))
    have M0 := Lib.hid (maxI_0 (absI_nn (gradF ls[k] ls[k + 1])))
    generalize gradF ls[k] ls[k + 1] = gn at *
    generalize ls[k] = x at *
    have K0 : ¬ (0 : Int) < (k : Int) := by omega
    have K1 : (k : Int) + 1 < (ls.length : Int) := by omega
    rw [HS.out]
    clear h1 h3 HS hr V
    go_enter Try.func77, Try.ntmps77
    go_wp2_with fail
    refine (HGn.out _ (HR.out)).mono ?_
    rintro e w2 ⟨rfl, n2, rfl⟩
    have mn := MN.out
    have m0 := M0.out
    obtain ⟨c0, c1, c2, c3, c4, c5, c6⟩ := HX.out
    go_wp2_with (go_at_call 59; refine (l00Max_any _ _ _).mono ?_; rintro e w' ⟨rfl, rfl⟩)
    all_goals
      go_ret
      exact ⟨ret_int (by (try simp only [beq_iff_eq, beq_eq_false_iff_ne, ne_eq] at *); unfold nextF; (repeat (first | rw [if_pos (by omega)] | rw [if_neg (by omega)])); try omega), by first | exact ⟨_, rfl⟩ | exact ⟨_, World.drewN_drewN _ _ _⟩ | exact ⟨0, rfl⟩⟩
  · have HS := Lib.hid (steep_0 h1 hk h3)
    generalize ls[k] = x at *
    have K0 : ¬ (0 : Int) < (k : Int) := by omega
    have K1 : ¬ (k : Int) + 1 < (ls.length : Int) := by omega
    rw [HS.out]
    clear h1 h3 HS hr V
    go_enter Try.func77, Try.ntmps77
    obtain ⟨c0, c1, c2, c3, c4, c5, c6⟩ := HX.out
    go_wp2_with fail
    all_goals
      go_ret
      exact ⟨ret_int (by (try simp only [beq_iff_eq, beq_eq_false_iff_ne, ne_eq] at *); unfold nextF; (repeat (first | rw [if_pos (by omega)] | rw [if_neg (by omega)])); try omega), by first | exact ⟨_, rfl⟩ | exact ⟨_, World.drewN_drewN _ _ _⟩ | exact ⟨0, rfl⟩⟩
  · have HS := Lib.hid (steep_2 h1 hk h3 (by omega))
    obtain ⟨a0, a1⟩ := gradF_bd (V.get (k - 1) (by omega)) (V.get k hk)
    have HGp : Hid (∀ W : World, RdL W (some ⟨g, o, none⟩) ls → Calls Try.prog 83 #[.slice (some ⟨g, o, none⟩) ls.length c, .int .i64 ((k : Int) - 1)] W fun e w' => e = .returned (.int .i64 (gradF ls[k - 1] ls[k])) ∧ ∃ n, w' = W.drewN n) := Lib.hid fun W h => by
      have := l05Gradient_any (some ⟨g, o, none⟩) c ls (k - 1) (by omega) (by omega) W h V
      simp only [show k - 1 + 1 = k from by omega] at this
      rwa [show ((k - 1 : Nat) : Int) = (k : Int) - 1 from by omega] at this
    have MP := Lib.hid ((congrArg (maxI 0) (maxI_abs (gradF ls[k - 1] ls[k]))).trans (maxI_0 (absI_nn _)))
    obtain ⟨b0, b1⟩ := gradF_bd (V.get k hk) (V.get (k + 1) h1)
    have HGn : Hid (∀ W : World, RdL W (some ⟨g, o, none⟩) ls → Calls Try.prog 83 #[.slice (some ⟨g, o, none⟩) ls.length c, .int .i64 (k : Int)] W fun e w' => e = .returned (.int .i64 (gradF ls[k] ls[k + 1])) ∧ ∃ n, w' = W.drewN n) := Lib.hid fun W h => l05Gradient_any _ c ls k h1 hk W h V
    have MN := Lib.hid (maxI_abs (gradF ls[k] ls[k + 1]))
    have M0 := Lib.hid (maxI_0 (absI_nn (gradF ls[k] ls[k + 1])))
    generalize gradF ls[k - 1] ls[k] = gp at *
    generalize gradF ls[k] ls[k + 1] = gn at *
    generalize ls[k] = x at *
    have K0 : (0 : Int) < (k : Int) := by omega
    have K1 : (k : Int) + 1 < (ls.length : Int) := by omega
    rw [HS.out]
    clear h1 h3 HS hr V
    go_enter Try.func77, Try.ntmps77
    go_wp2_with fail
    refine (HGp.out _ HR.out).mono ?_
    rintro e w1 ⟨rfl, n1, rfl⟩
    have mp := MP.out
    go_wp2_with (go_at_call 59; refine (l00Max_any _ _ _).mono ?_; rintro e w' ⟨rfl, rfl⟩)
    clear mp
    refine (HGn.out _ (HR.out.drewN n1)).mono ?_
    rintro e w2 ⟨rfl, n2, rfl⟩
    have mn := MN.out
    have m0 := M0.out
    obtain ⟨c0, c1, c2, c3, c4, c5, c6⟩ := HX.out
    go_wp2_with (go_at_call 59; refine (l00Max_any _ _ _).mono ?_; rintro e w' ⟨rfl, rfl⟩)
    all_goals
      go_ret
      exact ⟨ret_int (by (try simp only [beq_iff_eq, beq_eq_false_iff_ne, ne_eq] at *); unfold nextF; (repeat (first | rw [if_pos (by omega)] | rw [if_neg (by omega)])); try omega), by first | exact ⟨_, rfl⟩ | exact ⟨_, World.drewN_drewN _ _ _⟩ | exact ⟨0, rfl⟩⟩
  · have HS := Lib.hid (steep_3 h1 hk h3 (by omega))
    obtain ⟨a0, a1⟩ := gradF_bd (V.get (k - 1) (by omega)) (V.get k hk)
    have HGp : Hid (∀ W : World, RdL W (some ⟨g, o, none⟩) ls → Calls Try.prog 83 #[.slice (some ⟨g, o, none⟩) ls.length c, .int .i64 ((k : Int) - 1)] W fun e w' => e = .returned (.int .i64 (gradF ls[k - 1] ls[k])) ∧ ∃ n, w' = W.drewN n) := Lib.hid fun W h => by
      have := l05Gradient_any (some ⟨g, o, none⟩) c ls (k - 1) (by omega) (by omega) W h V
      simp only [show k - 1 + 1 = k from by omega] at this
      rwa [show ((k - 1 : Nat) : Int) = (k : Int) - 1 from by omega] at this
    have MP := Lib.hid ((congrArg (maxI 0) (maxI_abs (gradF ls[k - 1] ls[k]))).trans (maxI_0 (absI_nn _)))
    generalize gradF ls[k - 1] ls[k] = gp at *
    generalize ls[k] = x at *
    have K0 : (0 : Int) < (k : Int) := by omega
    have K1 : ¬ (k : Int) + 1 < (ls.length : Int) := by omega
    rw [HS.out]
    clear h1 h3 HS hr V
    go_enter Try.func77, Try.ntmps77
    go_wp2_with fail
    refine (HGp.out _ HR.out).mono ?_
    rintro e w1 ⟨rfl, n1, rfl⟩
    have mp := MP.out
    obtain ⟨c0, c1, c2, c3, c4, c5, c6⟩ := HX.out
    go_wp2_with (go_at_call 59; refine (l00Max_any _ _ _).mono ?_; rintro e w' ⟨rfl, rfl⟩)
    clear mp
    all_goals
      go_ret
      exact ⟨ret_int (by (try simp only [beq_iff_eq, beq_eq_false_iff_ne, ne_eq] at *); unfold nextF; (repeat (first | rw [if_pos (by omega)] | rw [if_neg (by omega)])); try omega), by first | exact ⟨_, rfl⟩ | exact ⟨_, World.drewN_drewN _ _ _⟩ | exact ⟨0, rfl⟩⟩
end Go.Proofs.Ytnlikinckmoomaa
