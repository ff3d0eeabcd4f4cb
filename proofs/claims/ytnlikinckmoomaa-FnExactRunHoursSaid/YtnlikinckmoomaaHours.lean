/- A profile after some hours: plain laws, and the contracts of the program's and of the reference's RunHours, StepHour and what they call. -/
import Derived.Test.YtnlikinckmoomaaFormsL
import Derived.Test.YtnlikinckmoomaaTop
import Derived.Test.YtnlikinckmoomaaIntS
namespace Go.Proofs.Ytnlikinckmoomaa
open Go.ChangeShapes Go.WideShapes Go.ChangeAt Go.RowKit Go.Joins Go.Deep
set_option linter.unusedVariables false
def heatJ (ls : List Ly) (j : Int) : List Ly := if 0 ≤ j then (heatA warmF j (settleL ls)).l else (heatA coolF (-j) (settleL ls)).l
def stepL (ls : List Ly) (j : Int) : List Ly := formsL (drainA (heatJ ls j)).2
def stepW (ls : List Ly) (j : Int) : Int := (drainA (heatJ ls j)).1
theorem heatJ_p {ls : List Ly} {j : Int} (h : 0 ≤ j) : heatJ ls j = (heatA warmF j (settleL ls)).l := by unfold heatJ; rw [if_pos h]
theorem heatJ_n {ls : List Ly} {j : Int} (h : ¬ 0 ≤ j) : heatJ ls j = (heatA coolF (-j) (settleL ls)).l := by unfold heatJ; rw [if_neg h]
theorem heatJ_VL {ls : List Ly} (V : VL ls) {j : Int} (h0 : -100000000 ≤ j) (h1 : j ≤ 100000000) : VL (heatJ ls j) := by
  unfold heatJ
  split
  · exact heat_VL (settle_VL V) warmF warm_hb (by assumption) h1
  · exact heat_VL (settle_VL V) coolF cool_hb (by omega) (by omega)
theorem step_VL {ls : List Ly} (V : VL ls) {j : Int} (h0 : -100000000 ≤ j) (h1 : j ≤ 100000000) : VL (stepL ls j) := forms_VL (drain_VL (heatJ_VL V h0 h1))
theorem stepW_bd {ls : List Ly} (V : VL ls) {j : Int} (h0 : -100000000 ≤ j) (h1 : j ≤ 100000000) : 0 ≤ stepW ls j ∧ stepW ls j ≤ 16000000 := drain_drop (heatJ_VL V h0 h1) 0
structure Hr where
  l : List Ly
  s : Int
def hourA (h : Hr) (j : Int) : Hr := ⟨stepL h.l j, h.s + stepW h.l j⟩
def hoursF (ls : List Ly) (js : List Int) : Hr := js.foldl hourA ⟨ls, 0⟩
theorem hours_snoc (ls : List Ly) (js : List Int) (k : Nat) (h : k < js.length) : hoursF ls (js.take (k + 1)) = hourA (hoursF ls (js.take k)) js[k] := by
  unfold hoursF
  rw [List.take_succ_eq_append_getElem h, List.foldl_append]
  rfl
def jOk (j : Int) : Bool := inB j (-100000000) 100000000
theorem hours_bd {ls : List Ly} (V : VL ls) (js : List Int) (hj : ∀ j ∈ js, jOk j = true) : ∀ k, k ≤ js.length → VL (hoursF ls (js.take k)).l ∧ 0 ≤ (hoursF ls (js.take k)).s ∧ (hoursF ls (js.take k)).s ≤ 16000000 * k
  | 0, _ => by simp [hoursF]; exact V
  | k + 1, h => by
    obtain ⟨a, b, c⟩ := hours_bd V js hj k (by omega)
    rw [hours_snoc ls js k (by omega)]
    obtain ⟨p, q⟩ := inB_yes (hj js[k] (List.getElem_mem _))
    obtain ⟨r, s⟩ := stepW_bd a p q
    refine ⟨step_VL a p q, ?_, ?_⟩
    · show 0 ≤ (hoursF ls (js.take k)).s + stepW _ _
      omega
    · show (hoursF ls (js.take k)).s + stepW _ _ ≤ _
      push_cast
      omega
def hoursC (ls : List Ly) (js : List Int) : Int := if okL ls then (if js.all jOk then (if 64 < js.length then 7 else 0) else 2) else 1
def hoursR (ls : List Ly) (js : List Int) : List Ly := if hoursC ls js = 0 then (hoursF ls js).l else []
def hoursV (ls : List Ly) (js : List Int) : Int := if hoursC ls js = 0 then (hoursF ls js).s else 0
theorem hours_no {ls : List Ly} {js : List Int} (c : Int) (h : hoursC ls js = c) (h0 : c ≠ 0) : hoursR ls js = [] ∧ hoursV ls js = 0 ∧ hoursC ls js = c := ⟨by unfold hoursR; rw [h, if_neg h0], by unfold hoursV; rw [h, if_neg h0], h⟩
theorem hours_1 {ls : List Ly} (h : okL ls = false) (js : List Int) : hoursR ls js = [] ∧ hoursV ls js = 0 ∧ hoursC ls js = 1 := hours_no 1 (by unfold hoursC; rw [h]; rfl) (by decide)
theorem hours_2 {ls : List Ly} {js : List Int} (h : okL ls = true) (h2 : js.all jOk = false) : hoursR ls js = [] ∧ hoursV ls js = 0 ∧ hoursC ls js = 2 := hours_no 2 (by unfold hoursC; rw [h, h2]; rfl) (by decide)
theorem hours_7 {ls : List Ly} {js : List Int} (h : okL ls = true) (h2 : js.all jOk = true) (h3 : 64 < js.length) : hoursR ls js = [] ∧ hoursV ls js = 0 ∧ hoursC ls js = 7 := hours_no 7 (by unfold hoursC; rw [h, h2, if_pos rfl, if_pos rfl, if_pos h3]) (by decide)
theorem hours_0 {ls : List Ly} {js : List Int} (h : okL ls = true) (h2 : js.all jOk = true) (h3 : ¬ 64 < js.length) : hoursR ls js = (hoursF ls js).l ∧ hoursV ls js = (hoursF ls js).s ∧ hoursC ls js = 0 := by
  have hc : hoursC ls js = 0 := by unfold hoursC; rw [h, h2, if_pos rfl, if_pos rfl, if_neg h3]
  exact ⟨by unfold hoursR; rw [hc, if_pos rfl], by unfold hoursV; rw [hc, if_pos rfl], hc⟩
theorem hoursR_len (ls : List Ly) (js : List Int) : (hoursR ls js).length ≤ 1048576 := by
  unfold hoursR
  split
  · rename_i h
    unfold hoursC at h
    split at h
    · rename_i h1
      split at h
      · rename_i h2
        have := (hours_bd (VL.of_ok h1) js (fun j hj => List.all_eq_true.1 h2 j hj) js.length (Nat.le_refl _)).1.len
        rw [List.take_length] at this
        omega
      · cases h
    · cases h
  · simp
theorem negw {x : Int} (h0 : -9223372036854775808 ≤ x) (h1 : x ≤ 9223372036854775807) : ∃ nj, IntKind.i64.wrap (-x) = nj ∧ inB (maxI x nj) 0 100000000 = jOk x := by
  refine ⟨_, rfl, ?_⟩
  rw [IntKind.wrap_i64]
  by_cases e : x = -9223372036854775808
  · subst e
    rfl
  · rw [show (-x + 9223372036854775808) % 18446744073709551616 - 9223372036854775808 = -x from by omega]
    unfold jOk inB maxI
    congr 1
    split <;> (apply propext; constructor <;> intro <;> omega)
set_option maxHeartbeats 1000000 in
theorem l05Step_any (A : Option Addr) (c : Nat) (ls : List Ly) (j : Int) (w : World) (hr : RdL w A ls) (V : VL ls) (hc : ls.length ≤ c) (h0 : -100000000 ≤ j) (h1 : j ≤ 100000000) :
    Calls Try.prog 60 #[.slice A ls.length c, .int .i64 j] w (GivesLV w (stepL ls j) (stepW ls j)) := by
  have VH := heatJ_VL V h0 h1
  have VD := drain_VL VH
  have HSL : Hid (stepL ls j = formsL (drainA (heatJ ls j)).2) := rfl
  have HSW : Hid (stepW ls j = (drainA (heatJ ls j)).1) := rfl
  have VS := settle_VL V
  by_cases hj : 0 ≤ j
  · have HJ := Lib.hid (heatJ_p (ls := ls) hj)
    go_enter Try.func60, Try.ntmps60
    go_wp2_with fail
    refine (l05All_any A c ls w hr V hc).mono ?_
    rintro e w1 ⟨v1, rfl, hs1, hb1⟩
    obtain ⟨A1, c1, rfl, ho1⟩ := hs1.out
    clear hs1
    go_wp2_with fail
    refine (l05Warm_any A1 c1 (settleL ls) j w1 ho1.rd VS hj h1).mono ?_
    rintro e w2 ⟨v2, rfl, ⟨A2, c2, rfl, hcap2, ho2⟩, hb2⟩
    rw [← HJ.out] at ho2 ⊢
    clear hcap2
    go_wp2_with fail
    refine (l05Drain_any A2 c2 (heatJ ls j) w2 ho2.rd VH).mono ?_
    rintro e w3 ⟨v3, rfl, ⟨A3, c3, rfl, hcap3, ho3⟩, hb3⟩
    clear hcap3
    go_wp2_with fail
    refine (l05Forms_any A3 c3 (drainA (heatJ ls j)).2 w3 ho3.rd VD).mono ?_
    rintro e w4 ⟨A4, c4, rfl, hcap4, ho4, hb4⟩
    go_wp2_with fail
    go_ret2
    exact ⟨_, by rw [HSW.out]; rfl, ⟨A4, c4, by rw [HSL.out]; rfl, by rw [HSL.out]; exact hcap4, by rw [HSL.out]; exact ho4.mono (Nat.le_trans hb1.size (Nat.le_trans hb2.size hb3.size))⟩, bl_trans (bl_trans (bl_trans hb1 hb2) hb3) hb4⟩
  · have HJ := Lib.hid (heatJ_n (ls := ls) hj)
    go_enter Try.func60, Try.ntmps60
    go_wp2_with fail
    refine (l05All_any A c ls w hr V hc).mono ?_
    rintro e w1 ⟨v1, rfl, hs1, hb1⟩
    obtain ⟨A1, c1, rfl, ho1⟩ := hs1.out
    clear hs1
    go_wp2_with fail
    refine (l05Cool_any A1 c1 (settleL ls) (-j) w1 ho1.rd VS (by omega) (by omega)).mono ?_
    rintro e w2 ⟨v2, rfl, ⟨A2, c2, rfl, hcap2, ho2⟩, hb2⟩
    rw [← HJ.out] at ho2 ⊢
    clear hcap2
    go_wp2_with fail
    refine (l05Drain_any A2 c2 (heatJ ls j) w2 ho2.rd VH).mono ?_
    rintro e w3 ⟨v3, rfl, ⟨A3, c3, rfl, hcap3, ho3⟩, hb3⟩
    clear hcap3
    go_wp2_with fail
    refine (l05Forms_any A3 c3 (drainA (heatJ ls j)).2 w3 ho3.rd VD).mono ?_
    rintro e w4 ⟨A4, c4, rfl, hcap4, ho4, hb4⟩
    go_wp2_with fail
    go_ret2
    exact ⟨_, by rw [HSW.out]; rfl, ⟨A4, c4, by rw [HSL.out]; rfl, by rw [HSL.out]; exact hcap4, by rw [HSL.out]; exact ho4.mono (Nat.le_trans hb1.size (Nat.le_trans hb2.size hb3.size))⟩, bl_trans (bl_trans (bl_trans hb1 hb2) hb3) hb4⟩
end Go.Proofs.Ytnlikinckmoomaa
