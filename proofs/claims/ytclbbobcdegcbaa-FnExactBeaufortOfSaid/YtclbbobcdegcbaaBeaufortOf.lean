/- The law FnExactBeaufortOf holds: the program's BeaufortOf returns what the reference's returns, for every int64. No condition. -/
import Derived.Test.YtclbbobcdegcbaaBase
namespace Go.Proofs.Ytclbbobcdegcbaa.fnExactBeaufortOf
open Go.ChangeShapes Go.WideShapes Go.ChangeAt Go.RowKit
open Go.ChangeMaps (open_string shut_string)
set_option linter.unusedVariables false
/-- How many of the table's first k numbers are at most n. -/
def tab : List Int := [30, 160, 340, 550, 800, 1080, 1390, 1720, 2080, 2450, 2850, 3270]
def at_ (k : Nat) : Int := tab.getD k 0
def cnt (n : Int) : Nat → Nat
  | 0 => 0
  | k + 1 => cnt n k + if at_ k ≤ n then 1 else 0
theorem cnt_le (n : Int) (k : Nat) : cnt n k ≤ k := by
  induction k with
  | zero => simp [cnt]
  | succ k ih => unfold cnt; split <;> omega
theorem cnt_t {n : Int} {k : Nat} (h : at_ k ≤ n) : cnt n (k + 1) = cnt n k + 1 := by
  show cnt n k + (if at_ k ≤ n then 1 else 0) = _
  rw [if_pos h]
theorem cnt_f {n : Int} {k : Nat} (h : ¬ at_ k ≤ n) : cnt n (k + 1) = cnt n k := by
  show cnt n k + (if at_ k ≤ n then 1 else 0) = _
  rw [if_neg h]; rfl
theorem tabAt (k : Nat) (h : k < 12) : (#[Value.int .i64 30, .int .i64 160, .int .i64 340, .int .i64 550, .int .i64 800, .int .i64 1080, .int .i64 1390, .int .i64 1720, .int .i64 2080, .int .i64 2450, .int .i64 2850, .int .i64 3270] : Array Value)[k]? = some (.int .i64 (at_ k)) := by
  have : ∀ k : Fin 12, (#[Value.int .i64 30, .int .i64 160, .int .i64 340, .int .i64 550, .int .i64 800, .int .i64 1080, .int .i64 1390, .int .i64 1720, .int .i64 2080, .int .i64 2450, .int .i64 2850, .int .i64 3270] : Array Value)[k.val]? = some (.int .i64 (at_ k.val)) := by
    intro k
    match k with
    | 0 => rfl | 1 => rfl | 2 => rfl | 3 => rfl | 4 => rfl | 5 => rfl | 6 => rfl | 7 => rfl | 8 => rfl | 9 => rfl | 10 => rfl | 11 => rfl
  exact this ⟨k, h⟩
theorem tabL (k : Nat) (h : k < ([Value.int .i64 30, .int .i64 160, .int .i64 340, .int .i64 550, .int .i64 800, .int .i64 1080, .int .i64 1390, .int .i64 1720, .int .i64 2080, .int .i64 2450, .int .i64 2850, .int .i64 3270] : List Value).length) : ([Value.int .i64 30, .int .i64 160, .int .i64 340, .int .i64 550, .int .i64 800, .int .i64 1080, .int .i64 1390, .int .i64 1720, .int .i64 2080, .int .i64 2450, .int .i64 2850, .int .i64 3270] : List Value)[k] = .int .i64 (at_ k) := by
  have := tabAt k h
  simp only [List.getElem?_toArray] at this
  rw [List.getElem?_eq_getElem h] at this
  exact Option.some.inj this
theorem idxT (k : Nat) (w : World) (h : k < 12) :
    (Instr.index 47 (.agg #[.int .i64 30, .int .i64 160, .int .i64 340, .int .i64 550, .int .i64 800, .int .i64 1080, .int .i64 1390, .int .i64 1720, .int .i64 2080, .int .i64 2450, .int .i64 2850, .int .i64 3270]) (.int .i64 (k : Int))).run Try.prog w = .ok (.int .i64 (at_ k)) w := by
  rw [index_arr Try.underlying47 (by kernel_rfl) (by kernel_rfl) _ _ _ rfl (by omega) (by omega)]
  rw [Int.toNat_natCast, Array.getD_eq_getD_getElem?, tabAt k h]
  rfl
def force (n : Int) : Int := if inB n 0 100000 then cnt n 12 else 0
def code (n : Int) : Int := if inB n 0 100000 then 0 else 2
theorem force_f {n : Int} (h : inB n 0 100000 = false) : force n = 0 := by unfold force; rw [h]; rfl
theorem force_t {n : Int} (h : inB n 0 100000 = true) : force n = cnt n 12 := by unfold force; rw [h]; rfl
theorem code_f {n : Int} (h : inB n 0 100000 = false) : code n = 2 := by unfold code; rw [h]; rfl
theorem code_t {n : Int} (h : inB n 0 100000 = true) : code n = 0 := by unfold code; rw [h]; rfl
theorem ret2 {a b c d : Int} (h : a = b) (k : c = d) : Ending.returned (.tuple #[.int .i64 a, .int .i64 c]) = .returned (.tuple #[.int .i64 b, .int .i64 d]) := by rw [h, k]
theorem impl_any (n : Int) (w : World) : Calls Try.prog 35 #[.int .i64 n] w fun e w' => (e = .returned (.tuple #[.int .i64 (force n), .int .i64 (code n)])) ∧ w = w' := by
  rcases h0 : inB n 0 100000 with _ | _
  · have F1 := Lib.hid (force_f h0)
    have F2 := Lib.hid (code_f h0)
    go_enter Try.func35, Try.ntmps35
    go_wp2_with (go_at_call 39; refine (within_any _ _ _ _).mono ?_; rintro e w' ⟨rfl, rfl⟩)
    go_ret2
    exact ⟨(ret2 F1.out F2.out).symm, rfl⟩
  · have F1 := Lib.hid (force_t h0)
    have F2 := Lib.hid (code_t h0)
    go_enter Try.func35, Try.ntmps35
    go_wp2_with (go_at_call 39; refine (within_any _ _ _ _).mono ?_; rintro e w' ⟨rfl, rfl⟩)
    clear h0
    go_loop [4, 11] (fun f i => ∃ (k : Nat), k ≤ 12 ∧ i = .int .i64 k ∧ f = .int .i64 (cnt n k)) (fun _ i => 12 - (intOf i).toNat)
    case atStart => exact ⟨0, Nat.zero_le _, rfl, rfl⟩
    case round =>
      obtain ⟨k, hk, rfl, rfl⟩ := hrel
      by_cases hlt : k < 12
      · have hi := fun w => idxT k w hlt
        have hle := cnt_le n k
        by_cases hb : at_ k ≤ n
        · have HB := Lib.hid (cnt_t hb)
          go_wp2
          go_round
          case rel => exact ⟨k + 1, by omega, by go_num, by rw [HB.out]; go_num⟩
          case measure => simp [intOf]; omega
        · have HB := Lib.hid (cnt_f hb)
          go_wp2
          go_round
          case rel => exact ⟨k + 1, by omega, by go_num, by rw [HB.out]⟩
          case measure => simp [intOf]; omega
      · obtain rfl : k = 12 := by omega
        go_wp2
        go_ret2
        exact ⟨(ret2 F1.out F2.out).symm, rfl⟩
theorem spec_any (n : Int) (w : World) : Calls Try.prog 34 #[.int .i64 n] w fun e w' => (e = .returned (.tuple #[.int .i64 (force n), .int .i64 (code n)])) ∧ Below w.heap.size w w' := by
  rcases h0 : inB n 0 100000 with _ | _
  · have F1 := Lib.hid (force_f h0)
    have F2 := Lib.hid (code_f h0)
    go_enter Try.func34, Try.ntmps34
    go_wp2_with (first | (go_at_call 50; go_in) | (go_at_call 38; refine (l00In_any _ _ _ _).mono ?_; rintro e w' ⟨rfl, rfl⟩))
    go_ret2
    exact ⟨(ret2 F1.out F2.out).symm, Below.refl _ _⟩
  · have F1 := Lib.hid (force_t h0)
    have F2 := Lib.hid (code_t h0)
    go_enter Try.func34, Try.ntmps34
    go_wp2_with (first | (go_at_call 50; go_in) | (go_at_call 38; refine (l00In_any _ _ _ _).mono ?_; rintro e w' ⟨rfl, rfl⟩))
    clear h0
    go_loop [5, 6] (fun f i => ∃ (k : Nat), k ≤ 12 ∧ i = .int .i64 k ∧ f = .int .i64 (cnt n k)) (fun _ i => 12 - (intOf i).toNat)
    case atStart => exact ⟨0, Nat.zero_le _, rfl, rfl⟩
    case round =>
      obtain ⟨k, hk, rfl, rfl⟩ := hrel
      by_cases hlt : k < 12
      · have hi := tabL k
        have hle := cnt_le n k
        by_cases hb : at_ k ≤ n
        · have HB := Lib.hid (cnt_t hb)
          go_wp2
          go_round
          case rel => exact ⟨k + 1, by omega, by go_num, by rw [HB.out]; go_num⟩
          case measure => simp [intOf]; omega
        · have HB := Lib.hid (cnt_f hb)
          go_wp2
          go_round
          case rel => exact ⟨k + 1, by omega, by go_num, by rw [HB.out]⟩
          case measure => simp [intOf]; omega
      · obtain rfl : k = 12 := by omega
        go_wp2
        go_ret2
        exact ⟨(ret2 F1.out F2.out).symm, by repeat (first | exact Below.refl _ _ | apply bl_alloc)⟩
theorem walk (a0 : Int) (w0 : (Lit.int .i64 a0).wf = true) (w : World) :
    Calls Try.prog 13 #[.int .i64 a0] w fun e w' => e = .returned (.bool true) ∧ Below w.heap.size w w' := by
  clear w0
  go_enter Try.func13, Try.ntmps13
  go_wp2_with (first | (go_at_call 34; refine (spec_any _ _).mono ?_; rintro e w1 ⟨rfl, hb1⟩) | (go_at_call 35; refine (impl_any _ _).mono ?_; rintro e w' ⟨rfl, rfl⟩))
  go_ret
  exact ⟨rfl, hb1⟩
theorem own : ownKnob Try.prog.godebug = none := by kernel_rfl
theorem laidOut : laidOutB Try.prog = true := by kernel_rfl
set_option maxRecDepth 100000 in
theorem lifted (os : Os) (started : os.Started) (H : Type) (enc : TypeId × Value → H) :
    ReturnsInHanded {} Try.checked os 13 .any (Rows.fnExactBeaufortOfSpec.pre6 enc Try.prog Try.f13 Rows.fnExactBeaufortOfRow.domain false) (Rows.fnExactBeaufortOfSpec.post enc Try.prog Try.f13 false true false false) := by
  refine returnsInHanded_of_change (C := Try.checked) own started (by kernel_rfl) Try.func13
    (ChangeSpec.witness6 (enc := enc) (C := Try.checked) false ⟨#[], #[.int .i64 0], []⟩ 8 (by kernel_rfl) (by kernel_rfl) (by kernel_rfl) (by kernel_rfl)) ?_
  intro W base args ds gs before hval0 hW hcnd _
  have hval : ∀ (j : Nat) t v, Try.f13.params[j]? = some t → args[j]? = some v → Value.okWide Try.prog W .any base t v := hval0
  have hW' := hW
  obtain ⟨p, q, hA0, hV, rfl, hfz, hnd⟩ := hW
  have hA : DataW.TrodAll enc Try.prog W 0 (fun _ => true) true Try.f13.params.toList args.toList ds p := hA0
  rw [Try.params13] at hA hval
  obtain ⟨v0, vs0, d0, ds0, p0, q0, hargs, rfl, rfl, h0, r0⟩ := trodAll_cons hA
  obtain ⟨rfl, rfl, rfl⟩ := trodAll_nil r0
  obtain rfl : args = #[v0] := by cases args; simp_all
  obtain ⟨rfl, rfl⟩ := trodVars_none hV
  obtain ⟨a0, rfl, rfl, rfl, w0⟩ := open_int Try.underlying2 (hval 0 2 v0 rfl rfl) h0
  clear hA0 hval0
  refine (walk a0 w0 W).mono fun e W' ⟨he, bel⟩ => ?_
  subst he
  exact ⟨_, rfl, _, _, _, [], _, [], hW', trodAll_mk1 (shut_bool Try.underlying4 _), (trodAll_cons_mk (shut_int Try.underlying2 w0) trodAll_mk0), rfl, bel.frame _, fun h => by cases h⟩
theorem over : Rows.fnExactBeaufortOfRow.holds Try.pinned (OpenSpec.ofChange Rows.fnExactBeaufortOfSpec) :=
  OpenClaim.holds_of_wide 13 Try.f13 rfl rfl rfl rfl rfl rfl rfl ⟨rfl, rfl, rfl, rfl, rfl⟩ rfl rfl rfl rfl rfl (by kernel_rfl) Try.func13 (by kernel_rfl)
    (of_decide_eq_true (by kernel_rfl)) (by unfold Func.isWrapper; first | (rw [if_pos (by decide +kernel)]; kernel_rfl) | (rw [if_neg (by decide +kernel)]; exact ⟨rfl, rfl⟩))
    (fun os started H enc _ => lifted os started H enc)
theorem proved : Rows.FnExactBeaufortOfSaid := over
#print axioms proved
end Go.Proofs.Ytclbbobcdegcbaa.fnExactBeaufortOf
