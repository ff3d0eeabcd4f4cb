/- The law FnExactBlend holds: the program's Blend returns what the reference's returns, for all int64. No condition. -/
import Derived.Test.YtnkmcejaemcfeaaLine
namespace Go.Proofs.Ytnkmcejaemcfeaa.fnExactBlend
open Go.ChangeShapes Go.WideShapes Go.ChangeAt Go.RowKit
open Go.ChangeMaps (open_string shut_string)
set_option linter.unusedVariables false
theorem idx4 (cs : Array Value) (i : Int) (w : World) (hc : cs.size = 4) (h0 : 0 ≤ i) (h1 : i < 4) :
    (Instr.index 60 (.agg cs) (.int .i64 i)).run Try.prog w = .ok (cs.getD i.toNat undef) w :=
  index_arr Try.underlying60 (by kernel_rfl) (by kernel_rfl) cs i w hc h0 h1
attribute [local go_sem] idx4
def ok4 (a b c d : Int) : Bool := inB a (-1000000) 1000000 && (inB b (-1000000) 1000000 && (inB c (-1000000) 1000000 && inB d (-1000000) 1000000))
def res (a b c d x : Int) : Int := if ok4 a b c d then lineF a b c d x else 0
theorem res_f {a b c d x : Int} (h : ok4 a b c d = false) : res a b c d x = 0 := by unfold res; rw [h]; rfl
theorem res_t {a b c d x : Int} (h : ok4 a b c d = true) : res a b c d x = lineF a b c d x := by unfold res; rw [h]; rfl
set_option maxHeartbeats 2000000 in
theorem impl_any (a b c d x : Int) (w : World) : Calls Try.prog 33 #[.int .i64 a, .int .i64 b, .int .i64 c, .int .i64 d, .int .i64 x] w fun e w' => e = .returned (.int .i64 (res a b c d x)) ∧ ∃ n, w' = w.drewN n := by
  rcases h0 : inB a (-1000000) 1000000 with _ | _
  · have F := Lib.hid (res_f (x := x) (show ok4 a b c d = false by simp [ok4, h0]))
    go_enter Try.func33, Try.ntmps33
    go_wp2_with fail
    go_loop [18] (fun i => ∃ k : Nat, k ≤ 0 ∧ i = .int .i64 k) (fun i => 4 - (intOf i).toNat)
    case atStart => exact ⟨0, by omega, rfl⟩
    case round =>
      obtain ⟨k, hk, rfl⟩ := hrel
      obtain rfl : k = 0 := by omega
      go_wp2_with (go_at_call 52; refine (within_any _ _ _ _).mono ?_; rintro e w' ⟨rfl, rfl⟩)
      go_ret
      exact ⟨(ret_int F.out).symm, 0, rfl⟩
  rcases h1 : inB b (-1000000) 1000000 with _ | _
  · have F := Lib.hid (res_f (x := x) (show ok4 a b c d = false by simp [ok4, h1]))
    go_enter Try.func33, Try.ntmps33
    go_wp2_with fail
    go_loop [18] (fun i => ∃ k : Nat, k ≤ 1 ∧ i = .int .i64 k) (fun i => 4 - (intOf i).toNat)
    case atStart => exact ⟨0, by omega, rfl⟩
    case round =>
      obtain ⟨k, hk, rfl⟩ := hrel
      by_cases e0 : k = 0
      · subst e0
        go_wp2_with (go_at_call 52; refine (within_any _ _ _ _).mono ?_; rintro e w' ⟨rfl, rfl⟩)
        go_round
        case rel => exact ⟨1, by omega, by go_num⟩
        case measure => simp [intOf]
      obtain rfl : k = 1 := by omega
      go_wp2_with (go_at_call 52; refine (within_any _ _ _ _).mono ?_; rintro e w' ⟨rfl, rfl⟩)
      go_ret
      exact ⟨(ret_int F.out).symm, 0, rfl⟩
  rcases h2 : inB c (-1000000) 1000000 with _ | _
  · have F := Lib.hid (res_f (x := x) (show ok4 a b c d = false by simp [ok4, h2]))
    go_enter Try.func33, Try.ntmps33
    go_wp2_with fail
    go_loop [18] (fun i => ∃ k : Nat, k ≤ 2 ∧ i = .int .i64 k) (fun i => 4 - (intOf i).toNat)
    case atStart => exact ⟨0, by omega, rfl⟩
    case round =>
      obtain ⟨k, hk, rfl⟩ := hrel
      by_cases e0 : k = 0
      · subst e0
        go_wp2_with (go_at_call 52; refine (within_any _ _ _ _).mono ?_; rintro e w' ⟨rfl, rfl⟩)
        go_round
        case rel => exact ⟨1, by omega, by go_num⟩
        case measure => simp [intOf]
      by_cases e1 : k = 1
      · subst e1
        go_wp2_with (go_at_call 52; refine (within_any _ _ _ _).mono ?_; rintro e w' ⟨rfl, rfl⟩)
        go_round
        case rel => exact ⟨2, by omega, by go_num⟩
        case measure => simp [intOf]
      obtain rfl : k = 2 := by omega
      go_wp2_with (go_at_call 52; refine (within_any _ _ _ _).mono ?_; rintro e w' ⟨rfl, rfl⟩)
      go_ret
      exact ⟨(ret_int F.out).symm, 0, rfl⟩
  rcases h3 : inB d (-1000000) 1000000 with _ | _
  · have F := Lib.hid (res_f (x := x) (show ok4 a b c d = false by simp [ok4, h3]))
    go_enter Try.func33, Try.ntmps33
    go_wp2_with fail
    go_loop [18] (fun i => ∃ k : Nat, k ≤ 3 ∧ i = .int .i64 k) (fun i => 4 - (intOf i).toNat)
    case atStart => exact ⟨0, by omega, rfl⟩
    case round =>
      obtain ⟨k, hk, rfl⟩ := hrel
      by_cases e0 : k = 0
      · subst e0
        go_wp2_with (go_at_call 52; refine (within_any _ _ _ _).mono ?_; rintro e w' ⟨rfl, rfl⟩)
        go_round
        case rel => exact ⟨1, by omega, by go_num⟩
        case measure => simp [intOf]
      by_cases e1 : k = 1
      · subst e1
        go_wp2_with (go_at_call 52; refine (within_any _ _ _ _).mono ?_; rintro e w' ⟨rfl, rfl⟩)
        go_round
        case rel => exact ⟨2, by omega, by go_num⟩
        case measure => simp [intOf]
      by_cases e2 : k = 2
      · subst e2
        go_wp2_with (go_at_call 52; refine (within_any _ _ _ _).mono ?_; rintro e w' ⟨rfl, rfl⟩)
        go_round
        case rel => exact ⟨3, by omega, by go_num⟩
        case measure => simp [intOf]
      obtain rfl : k = 3 := by omega
      go_wp2_with (go_at_call 52; refine (within_any _ _ _ _).mono ?_; rintro e w' ⟨rfl, rfl⟩)
      go_ret
      exact ⟨(ret_int F.out).symm, 0, rfl⟩
  have F := Lib.hid (res_t (x := x) (show ok4 a b c d = true by simp [ok4, h0, h1, h2, h3]))
  obtain ⟨x0, y0⟩ := inB_yes h0
  obtain ⟨x1, y1⟩ := inB_yes h1
  obtain ⟨x2, y2⟩ := inB_yes h2
  obtain ⟨x3, y3⟩ := inB_yes h3
  go_enter Try.func33, Try.ntmps33
  go_wp2_with fail
  go_loop [18] (fun i => ∃ k : Nat, k ≤ 4 ∧ i = .int .i64 k) (fun i => 4 - (intOf i).toNat)
  case atStart => exact ⟨0, by omega, rfl⟩
  case round =>
    obtain ⟨k, hk, rfl⟩ := hrel
    by_cases e0 : k = 0
    · subst e0
      go_wp2_with (go_at_call 52; refine (within_any _ _ _ _).mono ?_; rintro e w' ⟨rfl, rfl⟩)
      go_round
      case rel => exact ⟨1, by omega, by go_num⟩
      case measure => simp [intOf]
    by_cases e1 : k = 1
    · subst e1
      go_wp2_with (go_at_call 52; refine (within_any _ _ _ _).mono ?_; rintro e w' ⟨rfl, rfl⟩)
      go_round
      case rel => exact ⟨2, by omega, by go_num⟩
      case measure => simp [intOf]
    by_cases e2 : k = 2
    · subst e2
      go_wp2_with (go_at_call 52; refine (within_any _ _ _ _).mono ?_; rintro e w' ⟨rfl, rfl⟩)
      go_round
      case rel => exact ⟨3, by omega, by go_num⟩
      case measure => simp [intOf]
    by_cases e3 : k = 3
    · subst e3
      go_wp2_with (go_at_call 52; refine (within_any _ _ _ _).mono ?_; rintro e w' ⟨rfl, rfl⟩)
      go_round
      case rel => exact ⟨4, by omega, by go_num⟩
      case measure => simp [intOf]
    obtain rfl : k = 4 := by omega
    go_wp2_with (go_at_call 66; refine (blend_any _ _ _ _ _ _ (by omega) (by omega) (by omega) (by omega) (by omega) (by omega) (by omega) (by omega)).mono ?_; rintro e w' ⟨rfl, nd, rfl⟩)
    go_ret
    exact ⟨(ret_int F.out).symm, _, rfl⟩
set_option maxHeartbeats 2000000 in
theorem spec_any (a b c d x : Int) (w : World) : Calls Try.prog 32 #[.int .i64 a, .int .i64 b, .int .i64 c, .int .i64 d, .int .i64 x] w fun e w' => e = .returned (.int .i64 (res a b c d x)) ∧ w = w' := by
  rcases h0 : inB a (-1000000) 1000000 with _ | _
  · have F := Lib.hid (res_f (x := x) (show ok4 a b c d = false by simp [ok4, h0]))
    go_enter Try.func32, Try.ntmps32
    go_wp2_with (go_at_call 50; refine (l00In_any _ _ _ _).mono ?_; rintro e w' ⟨rfl, rfl⟩)
    go_ret
    exact ⟨(ret_int F.out).symm, rfl⟩
  rcases h2 : inB c (-1000000) 1000000 with _ | _
  · have F := Lib.hid (res_f (x := x) (show ok4 a b c d = false by simp [ok4, h2]))
    go_enter Try.func32, Try.ntmps32
    go_wp2_with (go_at_call 50; refine (l00In_any _ _ _ _).mono ?_; rintro e w' ⟨rfl, rfl⟩)
    go_ret
    exact ⟨(ret_int F.out).symm, rfl⟩
  rcases h1 : inB b (-1000000) 1000000 with _ | _
  · have F := Lib.hid (res_f (x := x) (show ok4 a b c d = false by simp [ok4, h1]))
    go_enter Try.func32, Try.ntmps32
    go_wp2_with (go_at_call 50; refine (l00In_any _ _ _ _).mono ?_; rintro e w' ⟨rfl, rfl⟩)
    go_ret
    exact ⟨(ret_int F.out).symm, rfl⟩
  rcases h3 : inB d (-1000000) 1000000 with _ | _
  · have F := Lib.hid (res_f (x := x) (show ok4 a b c d = false by simp [ok4, h3]))
    go_enter Try.func32, Try.ntmps32
    go_wp2_with (go_at_call 50; refine (l00In_any _ _ _ _).mono ?_; rintro e w' ⟨rfl, rfl⟩)
    go_ret
    exact ⟨(ret_int F.out).symm, rfl⟩
  have F := Lib.hid (res_t (x := x) (show ok4 a b c d = true by simp [ok4, h0, h1, h2, h3]))
  obtain ⟨x0, y0⟩ := inB_yes h0
  obtain ⟨x1, y1⟩ := inB_yes h1
  obtain ⟨x2, y2⟩ := inB_yes h2
  obtain ⟨x3, y3⟩ := inB_yes h3
  go_enter Try.func32, Try.ntmps32
  go_wp2_with (first | (go_at_call 50; refine (l00In_any _ _ _ _).mono ?_; rintro e w' ⟨rfl, rfl⟩) | (go_at_call 65; refine (l01Line_any _ _ _ _ _ _ (by omega) (by omega) (by omega) (by omega) (by omega) (by omega) (by omega) (by omega)).mono ?_; rintro e w' ⟨rfl, rfl⟩))
  go_ret
  exact ⟨(ret_int F.out).symm, rfl⟩
theorem walk (a0 : Int) (w0 : (Lit.int .i64 a0).wf = true) (a1 : Int) (w1 : (Lit.int .i64 a1).wf = true) (a2 : Int) (w2 : (Lit.int .i64 a2).wf = true) (a3 : Int) (w3 : (Lit.int .i64 a3).wf = true) (a4 : Int) (w4 : (Lit.int .i64 a4).wf = true) (w : World) :
    Calls Try.prog 11 #[.int .i64 a0, .int .i64 a1, .int .i64 a2, .int .i64 a3, .int .i64 a4] w fun e w' => e = .returned (.bool true) ∧ Below w.heap.size w w' := by
  clear w0 w1 w2 w3 w4
  go_enter Try.func11, Try.ntmps11
  go_wp2_with (first | (go_at_call 32; refine (spec_any _ _ _ _ _ _).mono ?_; rintro e w' ⟨rfl, rfl⟩) | (go_at_call 33; refine (impl_any _ _ _ _ _ _).mono ?_; rintro e w' ⟨rfl, nd, rfl⟩))
  go_ret
  exact ⟨rfl, bl_drewN (Below.refl _ _) _⟩
theorem own : ownKnob Try.prog.godebug = none := by kernel_rfl
theorem laidOut : laidOutB Try.prog = true := by kernel_rfl
set_option maxRecDepth 100000 in
theorem lifted (os : Os) (started : os.Started) (H : Type) (enc : TypeId × Value → H) :
    ReturnsInHanded {} Try.checked os 11 .any (Rows.fnExactBlendSpec.pre6 enc Try.prog Try.f11 Rows.fnExactBlendRow.domain false) (Rows.fnExactBlendSpec.post enc Try.prog Try.f11 false true false false) := by
  refine returnsInHanded_of_change (C := Try.checked) own started (by kernel_rfl) Try.func11
    (ChangeSpec.witness6 (enc := enc) (C := Try.checked) false ⟨#[], #[.int .i64 0, .int .i64 0, .int .i64 0, .int .i64 0, .int .i64 0], []⟩ 8 (by kernel_rfl) (by kernel_rfl) (by kernel_rfl) (by kernel_rfl)) ?_
  intro W base args ds gs before hval0 hW hcnd _
  have hval : ∀ (j : Nat) t v, Try.f11.params[j]? = some t → args[j]? = some v → Value.okWide Try.prog W .any base t v := hval0
  have hW' := hW
  obtain ⟨p, q, hA0, hV, rfl, hfz, hnd⟩ := hW
  have hA : DataW.TrodAll enc Try.prog W 0 (fun _ => true) true Try.f11.params.toList args.toList ds p := hA0
  rw [Try.params11] at hA hval
  obtain ⟨v0, vs0, d0, ds0, p0, q0, hargs, rfl, rfl, h0, r0⟩ := trodAll_cons hA
  obtain ⟨v1, vs1, d1, ds1, p1, q1, rfl, rfl, rfl, h1, r1⟩ := trodAll_cons r0
  obtain ⟨v2, vs2, d2, ds2, p2, q2, rfl, rfl, rfl, h2, r2⟩ := trodAll_cons r1
  obtain ⟨v3, vs3, d3, ds3, p3, q3, rfl, rfl, rfl, h3, r3⟩ := trodAll_cons r2
  obtain ⟨v4, vs4, d4, ds4, p4, q4, rfl, rfl, rfl, h4, r4⟩ := trodAll_cons r3
  obtain ⟨rfl, rfl, rfl⟩ := trodAll_nil r4
  obtain rfl : args = #[v0, v1, v2, v3, v4] := by cases args; simp_all
  obtain ⟨rfl, rfl⟩ := trodVars_none hV
  obtain ⟨a0, rfl, rfl, rfl, w0⟩ := open_int Try.underlying2 (hval 0 2 v0 rfl rfl) h0
  obtain ⟨a1, rfl, rfl, rfl, w1⟩ := open_int Try.underlying2 (hval 1 2 v1 rfl rfl) h1
  obtain ⟨a2, rfl, rfl, rfl, w2⟩ := open_int Try.underlying2 (hval 2 2 v2 rfl rfl) h2
  obtain ⟨a3, rfl, rfl, rfl, w3⟩ := open_int Try.underlying2 (hval 3 2 v3 rfl rfl) h3
  obtain ⟨a4, rfl, rfl, rfl, w4⟩ := open_int Try.underlying2 (hval 4 2 v4 rfl rfl) h4
  clear hA0 hval0
  refine (walk a0 w0 a1 w1 a2 w2 a3 w3 a4 w4 W).mono fun e W' ⟨he, bel⟩ => ?_
  subst he
  exact ⟨_, rfl, _, _, _, [], _, [], hW', trodAll_mk1 (shut_bool Try.underlying4 _), (trodAll_cons_mk (shut_int Try.underlying2 w0) (trodAll_cons_mk (shut_int Try.underlying2 w1) (trodAll_cons_mk (shut_int Try.underlying2 w2) (trodAll_cons_mk (shut_int Try.underlying2 w3) (trodAll_cons_mk (shut_int Try.underlying2 w4) trodAll_mk0))))), rfl, bel.frame _, fun h => by cases h⟩
theorem over : Rows.fnExactBlendRow.holds Try.pinned (OpenSpec.ofChange Rows.fnExactBlendSpec) :=
  OpenClaim.holds_of_wide 11 Try.f11 rfl rfl rfl rfl rfl rfl rfl ⟨rfl, rfl, rfl, rfl, rfl⟩ rfl rfl rfl rfl rfl (by kernel_rfl) Try.func11 (by kernel_rfl)
    (of_decide_eq_true (by kernel_rfl)) (by unfold Func.isWrapper; first | (rw [if_pos (by decide +kernel)]; kernel_rfl) | (rw [if_neg (by decide +kernel)]; exact ⟨rfl, rfl⟩))
    (fun os started H enc _ => lifted os started H enc)
theorem proved : Rows.FnExactBlendSaid := over
#print axioms proved
end Go.Proofs.Ytnkmcejaemcfeaa.fnExactBlend
