/- The law FnExactSameProfile holds: the program's SameProfile returns what the reference's returns, for every two lists of layers. No condition. -/
import Derived.Test.YtgjdljfhdaeeeaaSame
import Derived.Test.YtgjdljfhdaeeeaaLyOpen
namespace Go.Proofs.Ytgjdljfhdaeeeaa.fnExactSameProfile
open Go.ChangeShapes Go.WideShapes Go.ChangeAt Go.RowKit
open Go.ChangeMaps (open_string shut_string)
set_option linter.unusedVariables false
set_option maxHeartbeats 2000000 in
theorem walk (w : World) (a0 : Option Addr) (n0 c0 : Nat) (z0 : List Ly) (w0 : LysIn w a0 n0 c0 z0) (a1 : Option Addr) (n1 c1 : Nat) (z1 : List Ly) (w1 : LysIn w a1 n1 c1 z1) :
    Calls Try.prog 6 #[.slice a0 n0 c0, .slice a1 n1 c1] w fun e w' => e = .returned (.bool true) ∧ Below w.heap.size w w' := by
  obtain ⟨rfl, hmax, hr⟩ := w0
  obtain ⟨rfl, hmax1, hr1⟩ := w1
  by_cases hbig : 1048576 < z0.length
  · go_enter Try.func6, Try.ntmps6
    go_wp2_with (go_at_call 19; refine (szLayerS_no _ _ _ _ _ (by omega) (by omega) (by omega) hmax).mono ?_; rintro e w' ⟨rfl, rfl⟩)
    go_ret
    exact ⟨rfl, Below.refl _ _⟩
  have hn : z0.length ≤ 1048576 := by omega
  by_cases hbig1 : 1048576 - (z0.length : Int) < z1.length
  · go_enter Try.func6, Try.ntmps6
    go_wp2_with fail
    refine (szLayerS_yes _ _ _ _ _ (by omega) (by omega)).mono ?_
    rintro e w' ⟨rfl, rfl⟩
    go_wp2_with fail
    refine (szLayerS_no _ _ _ _ _ (by omega) (by omega) (by omega) hmax1).mono ?_
    rintro e w' ⟨rfl, rfl⟩
    go_wp2_with fail
    go_ret
    exact ⟨rfl, Below.refl _ _⟩
  have hn1 : z1.length ≤ 1048576 := by omega
  clear hbig hmax hmax1
  go_enter Try.func6, Try.ntmps6
  go_wp2_with fail
  refine (szLayerS_yes _ _ _ _ _ (by omega) (by omega)).mono ?_
  rintro e w' ⟨rfl, rfl⟩
  go_wp2_with fail
  refine (szLayerS_yes _ _ _ _ _ (by omega) (by omega)).mono ?_
  rintro e w' ⟨rfl, rfl⟩
  go_wp2_with fail
  clear hbig1
  refine (toLayerS_any _ _ _ _ hr hn).mono ?_
  rintro e w1 ⟨rfl, hO1, hb1⟩
  go_wp2_with fail
  refine (toLayerS_any _ _ _ _ (hr1.below hb1) hn1).mono ?_
  rintro e w2 ⟨rfl, hO2, hb2⟩
  have hb02 := bl_trans hb1 hb2
  have hP1 := hO1.below hb2
  go_wp2_with (go_at_call 20; go_in)
  refine (l03Same_any _ _ _ _ _ _ _ hP1.rd hO2.rd hn hn1).mono ?_
  rintro e w3 ⟨rfl, hb3⟩
  have hb03 := bl_trans hb02 hb3
  clear hP1 hO1 hO2
  go_wp2_with fail
  refine (toLayerS_any _ _ _ _ (hr.below hb03) hn).mono ?_
  rintro e w4 ⟨rfl, hO4, hb4⟩
  have hb04 := bl_trans hb03 hb4
  go_wp2_with fail
  refine (toLayerS_any _ _ _ _ (hr1.below hb04) hn1).mono ?_
  rintro e w5 ⟨rfl, hO5, hb5⟩
  have hb05 := bl_trans hb04 hb5
  have hP4 := hO4.below hb5
  go_wp2_with (go_at_call 22; go_in)
  refine (equal_any _ _ _ _ _ _ _ hP4.rd hO5.rd hn hn1).mono ?_
  rintro e w6 ⟨rfl, hb6⟩
  have hb06 := bl_trans hb05 hb6
  have hQ4 := hP4.below hb6
  have hQ5 := hO5.below hb6
  go_wp2_with fail
  refine (toLayerS_any _ _ _ _ (hr.below hb06) hn).mono ?_
  rintro e w7 ⟨rfl, hO7, hb7⟩
  have hb07 := bl_trans hb06 hb7
  have hR4 := hQ4.below hb7
  have hR5 := hQ5.below hb7
  go_wp2_with fail
  refine (eqLayerS_same _ _ _ _ _ _ hR4.rd hO7.rd hn).mono ?_
  rintro e w8 ⟨rfl, hb8⟩
  have hb08 := bl_trans hb07 hb8
  have hS5 := hR5.below hb8
  go_wp2_with fail
  refine (toLayerS_any _ _ _ _ (hr1.below hb08) hn1).mono ?_
  rintro e w9 ⟨rfl, hO9, hb9⟩
  have hb09 := bl_trans hb08 hb9
  have hT5 := hS5.below hb9
  go_wp2_with fail
  refine (eqLayerS_same _ _ _ _ _ _ hT5.rd hO9.rd hn1).mono ?_
  rintro e w10 ⟨rfl, hb10⟩
  go_wp2_with fail
  go_ret
  exact ⟨rfl, bl_trans hb09 hb10⟩
theorem own : ownKnob Try.prog.godebug = none := by kernel_rfl
theorem laidOut : laidOutB Try.prog = true := by kernel_rfl
set_option maxRecDepth 100000 in
theorem lifted (os : Os) (started : os.Started) (H : Type) (enc : TypeId × Value → H) :
    ReturnsInHanded {} Try.checked os 6 .any (Rows.fnExactSameProfileSpec.pre6 enc Try.prog Try.f6 Rows.fnExactSameProfileRow.domain false) (Rows.fnExactSameProfileSpec.post enc Try.prog Try.f6 false true false false) := by
  refine returnsInHanded_of_change (C := Try.checked) own started (by kernel_rfl) Try.func6
    (ChangeSpec.witness6 (enc := enc) (C := Try.checked) false ⟨#[], #[.slice none 0 0, .slice none 0 0], []⟩ 8 (by kernel_rfl) (by kernel_rfl) (by kernel_rfl) (by kernel_rfl)) ?_
  intro W base args ds gs before hval0 hW hcnd _
  have hval : ∀ (j : Nat) t v, Try.f6.params[j]? = some t → args[j]? = some v → Value.okWide Try.prog W .any base t v := hval0
  have hW' := hW
  obtain ⟨p, q, hA0, hV, rfl, hfz, hnd⟩ := hW
  have hA : DataW.TrodAll enc Try.prog W 0 (fun _ => true) true Try.f6.params.toList args.toList ds p := hA0
  rw [Try.params6] at hA hval
  obtain ⟨v0, vs0, d0, ds0, p0, q0, hargs, rfl, rfl, h0, r0⟩ := trodAll_cons hA
  obtain ⟨v1, vs1, d1, ds1, p1, q1, rfl, rfl, rfl, h1, r1⟩ := trodAll_cons r0
  obtain ⟨rfl, rfl, rfl⟩ := trodAll_nil r1
  obtain rfl : args = #[v0, v1] := by cases args; simp_all
  obtain ⟨rfl, rfl⟩ := trodVars_none hV
  have k0 := h0
  have lt0 : ∀ x ∈ p0, x.block < W.heap.size := by obtain ⟨m, hm⟩ := k0; exact DataW.trod_lt m _ _ _ hm
  obtain ⟨a0, len0, cap0, z0, rfl, w0⟩ := open_layers (hval 0 35 v0 rfl rfl) h0
  have k1 := h1
  have lt1 : ∀ x ∈ p1, x.block < W.heap.size := by obtain ⟨m, hm⟩ := k1; exact DataW.trod_lt m _ _ _ hm
  obtain ⟨a1, len1, cap1, z1, rfl, w1⟩ := open_layers (hval 1 35 v1 rfl rfl) h1
  clear hA0 hval0
  refine (walk W a0 len0 cap0 z0 w0 a1 len1 cap1 z1 w1).mono fun e W' ⟨he, bel⟩ => ?_
  subst he
  exact ⟨_, rfl, _, _, _, [], _, [], hW', trodAll_mk1 (shut_bool Try.underlying4 _), (trodAll_cons_mk (Below.trod laidOut (by kernel_rfl) (of_decide_eq_true (by kernel_rfl)) k0 bel lt0) (trodAll_cons_mk (Below.trod laidOut (by kernel_rfl) (of_decide_eq_true (by kernel_rfl)) k1 bel lt1) trodAll_mk0)), rfl, bel.frame _, fun h => by cases h⟩
theorem over : Rows.fnExactSameProfileRow.holds Try.pinned (OpenSpec.ofChange Rows.fnExactSameProfileSpec) :=
  OpenClaim.holds_of_wide 6 Try.f6 rfl rfl rfl rfl rfl rfl rfl ⟨rfl, rfl, rfl, rfl, rfl⟩ rfl rfl rfl rfl rfl (by kernel_rfl) Try.func6 (by kernel_rfl)
    (of_decide_eq_true (by kernel_rfl)) (by unfold Func.isWrapper; first | (rw [if_pos (by decide +kernel)]; kernel_rfl) | (rw [if_neg (by decide +kernel)]; exact ⟨rfl, rfl⟩))
    (fun os started H enc _ => lifted os started H enc)
theorem proved : Rows.FnExactSameProfileSaid := over
#print axioms proved
end Go.Proofs.Ytgjdljfhdaeeeaa.fnExactSameProfile
