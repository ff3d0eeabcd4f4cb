/- The law FnExactRootOf holds: the program's RootOf (by sort.Search) returns what the reference's returns, for every int64. No condition. -/
import Derived.Test.YtnkmcejaemcfeaaBase
namespace Go.Proofs.Ytnkmcejaemcfeaa.fnExactRootOf
open Go.ChangeShapes Go.WideShapes Go.ChangeAt Go.RowKit
open Go.ChangeMaps (open_string shut_string)
set_option linter.unusedVariables false
/-! ### plain laws -/
structure IsRoot (n r : Int) : Prop where
  lo : 0 ≤ r
  hi : r ≤ 3037000499
  le : r = 0 ∨ r * r ≤ n
  lt : r = 3037000499 ∨ n < (r + 1) * (r + 1)
theorem sq_mono {a b : Int} (h0 : 0 ≤ a) (h : a ≤ b) : a * a ≤ b * b := Int.mul_le_mul h h h0 (by omega)
theorem IsRoot.later {n r s : Int} (h : IsRoot n r) (k : IsRoot n s) : ¬ r < s := by
  intro hlt
  have h1 := h.lt
  have k1 := k.le
  have := h.lo
  have := k.hi
  rcases k1 with e | e
  · omega
  · rcases h1 with f | f
    · omega
    · have := sq_mono (a := r + 1) (b := s) (by omega) (by omega)
      omega
theorem IsRoot.uniq {n r s : Int} (h : IsRoot n r) (k : IsRoot n s) : r = s := by
  have := h.later k
  have := k.later h
  omega
noncomputable def rootF (n : Int) : Int := by classical exact if h : ∃ r, IsRoot n r then h.choose else 0
theorem root_eq {n r : Int} (h : IsRoot n r) : rootF n = r := by
  have hh : ∃ r, IsRoot n r := ⟨r, h⟩
  unfold rootF
  rw [dif_pos hh]
  exact hh.choose_spec.uniq h
def pB (n r : Int) : Bool := decide (n < (r + 1) * (r + 1))
theorem pB_t {n r : Int} (h : n < (r + 1) * (r + 1)) : pB n r = true := decide_eq_true h
theorem pB_f {n r : Int} (h : ¬ n < (r + 1) * (r + 1)) : pB n r = false := decide_eq_false h
theorem wrap_sq (r : Int) (h0 : 0 ≤ r) (h1 : r ≤ 3037000499) : wrap64 (r * r) = r * r := by
  have h2 := sq_mono h0 h1
  have h3 : 0 ≤ r * r := Int.mul_nonneg h0 h0
  exact IntWalk.wrap64_in _ ⟨by omega, by omega⟩
/-! ### the walks -/
theorem fn_any (r n : Int) (b : Nat) (w : World) (hc : w.cell? ⟨b, 0, none⟩ = some (.int .i64 n)) (h0 : 0 ≤ r) (h1 : r ≤ 3037000498) :
    Calls Try.prog 49 #[.int .i64 r, .pointer (some ⟨b, 0, none⟩)] w fun e w' => e = .returned (.bool (pB n r)) ∧ w = w' := by
  obtain ⟨q, hq, HQ⟩ : ∃ q, wrap64 ((r + 1) * (r + 1)) = q ∧ Hid (q = (r + 1) * (r + 1)) := ⟨_, rfl, wrap_sq (r + 1) (by omega) (by omega)⟩
  by_cases h : n < q
  · have F := Lib.hid (pB_t (by rw [← HQ.out]; exact h))
    go_enter Try.func49, Try.ntmps49
    go_wp2
    go_ret
    exact ⟨(ret_bool F.out).symm, rfl⟩
  · have F := Lib.hid (pB_f (by rw [← HQ.out]; exact h))
    go_enter Try.func49, Try.ntmps49
    go_wp2
    go_ret
    exact ⟨(ret_bool F.out).symm, rfl⟩
theorem search_any (n : Int) (b : Nat) (w : World) (hc : w.cell? ⟨b, 0, none⟩ = some (.int .i64 n)) :
    Calls Try.prog 48 #[.int .i64 3037000499, .func (.func 49) #[] #[.pointer (some ⟨b, 0, none⟩)]] w fun e w' => e = .returned (.int .i64 (rootF n)) ∧ w = w' := by
  have HC := Lib.hid hc
  clear hc
  go_enter Try.func48, Try.ntmps48
  go_wp2_with fail
  go_loop [5, 6] (fun a c => ∃ i j : Int, 0 ≤ i ∧ i ≤ j ∧ j ≤ 3037000499 ∧ a = .int .i64 i ∧ c = .int .i64 j ∧ (i = 0 ∨ i * i ≤ n) ∧ (j = 3037000499 ∨ n < (j + 1) * (j + 1))) (fun a c => (intOf c - intOf a).toNat)
  case atStart => exact ⟨0, 3037000499, by omega, by omega, by omega, rfl, rfl, .inl rfl, .inl rfl⟩
  case round =>
    obtain ⟨i, j, hi, hij, hj, rfl, rfl, hl, hu⟩ := hrel
    have HL := Lib.hid hl
    have HU := Lib.hid hu
    clear hl hu
    by_cases hlt : i < j
    · rcases hb : pB n ((i + j) / 2) with _ | _
      · have HB := Lib.hid (of_decide_eq_false hb)
        go_wp2_with fail
        refine (fn_any _ n b _ HC.out (by omega) (by omega)).mono ?_
        rintro e w' ⟨rfl, rfl⟩
        go_wp2_with fail
        go_round
        case rel => exact ⟨(i + j) / 2 + 1, j, by omega, by omega, by omega, rfl, rfl, .inr (by have := HB.out; omega), HU.out⟩
        case measure => simp [intOf]; omega
      · have HB := Lib.hid (of_decide_eq_true hb)
        go_wp2_with fail
        refine (fn_any _ n b _ HC.out (by omega) (by omega)).mono ?_
        rintro e w' ⟨rfl, rfl⟩
        go_wp2_with fail
        go_round
        case rel => exact ⟨i, (i + j) / 2, by omega, by omega, by omega, rfl, rfl, HL.out, .inr HB.out⟩
        case measure => simp [intOf]; omega
    · obtain rfl : i = j := by omega
      go_wp2_with fail
      go_ret
      exact ⟨(ret_int (root_eq ⟨hi, hj, HL.out, HU.out⟩)).symm, rfl⟩
theorem impl_any (n : Int) (w : World) : Calls Try.prog 17 #[.int .i64 n] w fun e w' => e = .returned (.int .i64 (rootF n)) ∧ Below w.heap.size w w' := by
  have hmf : ∀ (fn : Fn) (first cap : Array Value) (w : World), (Instr.makeFunc fn first cap).run Try.prog w = .ok (.func fn first cap) w := fun _ _ _ _ => rfl
  by_cases h0 : n < 0
  · have F := Lib.hid (root_eq (n := n) (r := 0) ⟨by omega, by omega, .inl rfl, .inr (by omega)⟩)
    go_enter Try.func17, Try.ntmps17
    go_wp2_with fail
    go_ret
    exact ⟨(ret_int F.out).symm, by repeat (first | exact Below.refl _ _ | apply bl_alloc)⟩
  · go_enter Try.func17, Try.ntmps17
    go_wp2_with fail
    refine (search_any n _ _ (by simp [go_sem])).mono ?_
    rintro e w' ⟨rfl, rfl⟩
    go_wp2_with fail
    go_ret
    exact ⟨rfl, by repeat (first | exact Below.refl _ _ | apply bl_alloc)⟩
theorem l01Root_any (n : Int) (w : World) : Calls Try.prog 47 #[.int .i64 n] w fun e w' => e = .returned (.int .i64 (rootF n)) ∧ w = w' := by
  go_enter Try.func47, Try.ntmps47
  go_wp2_with fail
  go_loop [3, 4] (fun a c => ∃ i j : Int, 0 ≤ i ∧ i ≤ j ∧ j ≤ 3037000499 ∧ a = .int .i64 i ∧ c = .int .i64 j ∧ (i = 0 ∨ i * i ≤ n) ∧ (j = 3037000499 ∨ n < (j + 1) * (j + 1))) (fun a c => (intOf c - intOf a).toNat)
  case atStart => exact ⟨0, 3037000499, by omega, by omega, by omega, rfl, rfl, .inl rfl, .inl rfl⟩
  case round =>
    obtain ⟨i, j, hi, hij, hj, rfl, rfl, hl, hu⟩ := hrel
    have HL := Lib.hid hl
    have HU := Lib.hid hu
    clear hl hu
    by_cases hlt : i < j
    · obtain ⟨q, hq, HQ⟩ : ∃ q, wrap64 ((i + j + 1) / 2 * ((i + j + 1) / 2)) = q ∧ Hid (q = (i + j + 1) / 2 * ((i + j + 1) / 2)) := ⟨_, rfl, wrap_sq ((i + j + 1) / 2) (by omega) (by omega)⟩
      by_cases h : q ≤ n
      · have HB : Hid ((i + j + 1) / 2 * ((i + j + 1) / 2) ≤ n) := by show _ ≤ _; rw [← HQ.out]; exact h
        go_wp2_with fail
        go_round
        case rel => exact ⟨(i + j + 1) / 2, j, by omega, by omega, by omega, rfl, rfl, .inr HB.out, HU.out⟩
        case measure => simp [intOf]; omega
      · have HB : Hid (n < (i + j + 1) / 2 * ((i + j + 1) / 2)) := by show _ < _; rw [← HQ.out]; omega
        go_wp2_with fail
        go_round
        case rel => exact ⟨i, (i + j + 1) / 2 - 1, by omega, by omega, by omega, rfl, rfl, HL.out, .inr (by rw [show (i + j + 1) / 2 - 1 + 1 = (i + j + 1) / 2 from by omega]; exact HB.out)⟩
        case measure => simp [intOf]; omega
    · obtain rfl : i = j := by omega
      go_wp2_with fail
      go_ret
      exact ⟨(ret_int (root_eq ⟨hi, hj, HL.out, HU.out⟩)).symm, rfl⟩
theorem walk (a0 : Int) (w0 : (Lit.int .i64 a0).wf = true) (w : World) :
    Calls Try.prog 3 #[.int .i64 a0] w fun e w' => e = .returned (.bool true) ∧ Below w.heap.size w w' := by
  clear w0
  go_enter Try.func3, Try.ntmps3
  go_wp2_with (first | (go_at_call 16; go_in) | (go_at_call 47; refine (l01Root_any _ _).mono ?_; rintro e w' ⟨rfl, rfl⟩) | (go_at_call 17; refine (impl_any _ _).mono ?_; rintro e w1 ⟨rfl, hb1⟩))
  go_ret
  exact ⟨rfl, hb1⟩
theorem own : ownKnob Try.prog.godebug = none := by kernel_rfl
theorem laidOut : laidOutB Try.prog = true := by kernel_rfl
set_option maxRecDepth 100000 in
theorem lifted (os : Os) (started : os.Started) (H : Type) (enc : TypeId × Value → H) :
    ReturnsInHanded {} Try.checked os 3 .any (Rows.fnExactRootOfSpec.pre6 enc Try.prog Try.f3 Rows.fnExactRootOfRow.domain false) (Rows.fnExactRootOfSpec.post enc Try.prog Try.f3 false true false false) := by
  refine returnsInHanded_of_change (C := Try.checked) own started (by kernel_rfl) Try.func3
    (ChangeSpec.witness6 (enc := enc) (C := Try.checked) false ⟨#[], #[.int .i64 0], []⟩ 8 (by kernel_rfl) (by kernel_rfl) (by kernel_rfl) (by kernel_rfl)) ?_
  intro W base args ds gs before hval0 hW hcnd _
  have hval : ∀ (j : Nat) t v, Try.f3.params[j]? = some t → args[j]? = some v → Value.okWide Try.prog W .any base t v := hval0
  have hW' := hW
  obtain ⟨p, q, hA0, hV, rfl, hfz, hnd⟩ := hW
  have hA : DataW.TrodAll enc Try.prog W 0 (fun _ => true) true Try.f3.params.toList args.toList ds p := hA0
  rw [Try.params3] at hA hval
  obtain ⟨v0, vs0, d0, ds0, p0, q0, hargs, rfl, rfl, h0, r0⟩ := trodAll_cons hA
  obtain ⟨rfl, rfl, rfl⟩ := trodAll_nil r0
  obtain rfl : args = #[v0] := by cases args; simp_all
  obtain ⟨rfl, rfl⟩ := trodVars_none hV
  obtain ⟨a0, rfl, rfl, rfl, w0⟩ := open_int Try.underlying2 (hval 0 2 v0 rfl rfl) h0
  clear hA0 hval0
  refine (walk a0 w0 W).mono fun e W' ⟨he, bel⟩ => ?_
  subst he
  exact ⟨_, rfl, _, _, _, [], _, [], hW', trodAll_mk1 (shut_bool Try.underlying4 _), (trodAll_cons_mk (shut_int Try.underlying2 w0) trodAll_mk0), rfl, bel.frame _, fun h => by cases h⟩
theorem over : Rows.fnExactRootOfRow.holds Try.pinned (OpenSpec.ofChange Rows.fnExactRootOfSpec) :=
  OpenClaim.holds_of_wide 3 Try.f3 rfl rfl rfl rfl rfl rfl rfl ⟨rfl, rfl, rfl, rfl, rfl⟩ rfl rfl rfl rfl rfl (by kernel_rfl) Try.func3 (by kernel_rfl)
    (of_decide_eq_true (by kernel_rfl)) (by unfold Func.isWrapper; first | (rw [if_pos (by decide +kernel)]; kernel_rfl) | (rw [if_neg (by decide +kernel)]; exact ⟨rfl, rfl⟩))
    (fun os started H enc _ => lifted os started H enc)
theorem proved : Rows.FnExactRootOfSaid := over
#print axioms proved
end Go.Proofs.Ytnkmcejaemcfeaa.fnExactRootOf
