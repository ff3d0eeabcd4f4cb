/- The law FnExactJoinLayers holds: the program's JoinLayers returns what the reference's returns, in memory of its own, for every list of layers and all int64. No condition. -/
import Derived.Test.YthlandlpjhdbdaaJoinB
import Derived.Test.YthlandlpjhdbdaaLyOpen
namespace Go.Proofs.Ythlandlpjhdbdaa.fnExactJoinLayers
open Go.ChangeShapes Go.WideShapes Go.ChangeAt Go.RowKit
open Go.ChangeMaps (open_string shut_string)
set_option linter.unusedVariables false
set_option maxHeartbeats 4000000 in
theorem walk (w : World) (a0 : Option Addr) (n0 c0 : Nat) (z0 : List Ly) (w0 : LysIn w a0 n0 c0 z0) (a1 : Int) (w1 : (Lit.int .i64 a1).wf = true) :
    Calls Try.prog 3 #[.slice a0 n0 c0, .int .i64 a1] w fun e w' => e = .returned (.bool true) ∧ Below w.heap.size w w' := by
  obtain ⟨rfl, hmax, hr⟩ := w0
  by_cases hbig : 1048576 < z0.length
  · go_enter Try.func3, Try.ntmps3
    go_wp2_with (go_at_call 4; refine (szLayerS_no _ _ _ _ _ (by omega) (by omega) (by omega) hmax).mono ?_; rintro e w' ⟨rfl, rfl⟩)
    go_ret
    exact ⟨rfl, Below.refl _ _⟩
  have hn : z0.length ≤ 1048576 := by omega
  have hRn : (joinR z0 a1).length ≤ 1048576 := joinR_len _ _ hn
  clear hbig hmax w1
  go_enter Try.func3, Try.ntmps3
  go_wp2_with (go_at_call 4; refine (szLayerS_yes _ _ _ _ _ (by omega) (by omega)).mono ?_; rintro e w' ⟨rfl, rfl⟩)
  refine (toLayerS_any _ _ _ _ hr hn).mono ?_
  rintro e w1 ⟨rfl, hO1, hb1⟩
  go_wp2_with fail
  refine (specJoin_any _ _ _ _ _ hO1.rd hn (Nat.le_refl _)).mono ?_
  rintro e w2 ⟨v0, rfl, hs0, hb2⟩
  obtain ⟨A0, c0', rfl, ho0⟩ := hs0.out
  have hrd0 := ho0.rd
  have hb02 := bl_trans hb1 hb2
  go_wp2_with fail
  refine (toLayerS_any _ _ _ _ (hr.below hb02) hn).mono ?_
  rintro e w3 ⟨rfl, hO3, hb3⟩
  go_wp2_with fail
  refine (implJoin_any _ _ _ _ _ hO3.rd hn (Nat.le_refl _)).mono ?_
  rintro e w4 ⟨v1, rfl, hs1, hb4⟩
  obtain ⟨A1, c1', rfl, ho1⟩ := hs1.out
  have hB23 : w2.heap.size < w3.heap.size := hO3.lt
  have hb24 := bl_trans hb3 hb4
  have hO4 := hO3.below hb4
  go_wp2_with fail
  refine (eqLayerS_same _ _ _ _ _ _ ho1.rd (hrd0.below hb24) hRn).mono ?_
  rintro e w5 ⟨rfl, hb5⟩
  have hb25 := bl_trans hb24 hb5
  have ho5 := ho1.below hb5
  have hO5 := hO4.below hb5
  have hb05 := bl_trans hb02 hb25
  go_wp2_with fail
  refine (toLayerS_any _ _ _ _ (hr.below hb05) hn).mono ?_
  rintro e w6 ⟨rfl, hO6, hb6⟩
  have hb26 := bl_trans hb25 hb6
  have ho6 := ho5.below hb6
  have hX6 := hO5.below hb6
  go_wp2_with fail
  refine (eqLayerS_same _ _ _ _ _ _ hX6.rd hO6.rd hn).mono ?_
  rintro e w7 ⟨rfl, hb7⟩
  have hb27 := bl_trans hb26 hb7
  have ho7 := ho6.below hb7
  have hX7 := hX6.below hb7
  go_wp2_with fail
  refine (mark_own _ _ z0 1 _ hX7 hn (by omega) (by omega)).mono ?_
  rintro e w8 ⟨rfl, hM8, hg8⟩
  have ho8 := ho7.aside hg8 hB23
  have hb28 : Below w2.heap.size w2 w8 := hb27.grown hg8 hb27.size (fun k hk => by injection hk with hk; omega)
  have d1 : decide ((1 : Int) + 7 * (z0.length : Int) < 0) = false := by simp; omega
  go_wp2_with fail
  refine (eqLayerS_same _ _ _ _ _ _ ho8.rd (hrd0.below hb28) hRn).mono ?_
  rintro e w9 ⟨rfl, hb9⟩
  have hb29 := bl_trans hb28 hb9
  have ho9 := ho8.below hb9
  have hB39 : w3.heap.size ≤ w9.heap.size := Nat.le_trans hb4.size (Nat.le_trans hb5.size (Nat.le_trans hb6.size (Nat.le_trans hb7.size (Nat.le_trans hg8.size hb9.size))))
  go_wp2_with fail
  refine (mark_any _ _ _ 1 _ _ ho9 hRn (by omega) (by omega)).mono ?_
  rintro e w10 hm10
  obtain ⟨rfl, ho10, hb10'⟩ := hm10.use ho9 hB39
  have hb210 : Below w2.heap.size w2 w10 := hb29.trans (hb10'.mono (by omega))
  have hb010 := bl_trans hb02 hb210
  clear hm10
  go_wp2_with fail
  refine (held_any _ _ _ 1 _ ho10.rd hRn (by omega) (by omega)).mono ?_
  rintro e w11 ⟨rfl, rfl⟩
  have d2 : decide ((1 : Int) + 7 * ((joinR z0 a1).length : Int) < 0) = false := by simp; omega
  go_wp2_with fail
  refine (toLayerS_any _ _ _ _ (hr.below hb010) hn).mono ?_
  rintro e w12 ⟨rfl, hO12, hb12⟩
  go_wp2_with fail
  refine (implJoin_any _ _ _ _ _ hO12.rd hn (Nat.le_refl _)).mono ?_
  rintro e w13 ⟨v2, rfl, hs2, hb13⟩
  obtain ⟨A2, c2', rfl, ho2⟩ := hs2.out
  have hb1013 := bl_trans hb12 hb13
  have hb213 := bl_trans hb210 hb1013
  have ho13 := ho10.below hb1013
  go_wp2_with fail
  refine (eqLayerS_same _ _ _ _ _ _ ho2.rd (hrd0.below hb213) hRn).mono ?_
  rintro e w14 ⟨rfl, hb14⟩
  have ho14 := ho13.below hb14
  have hb214 := bl_trans hb213 hb14
  go_wp2_with fail
  refine (held_any _ _ _ 1 _ ho14.rd hRn (by omega) (by omega)).mono ?_
  rintro e w15 ⟨rfl, rfl⟩
  go_wp2_with fail
  go_ret
  exact ⟨rfl, bl_trans hb02 hb214⟩
theorem own : ownKnob Try.prog.godebug = none := by kernel_rfl
theorem laidOut : laidOutB Try.prog = true := by kernel_rfl
set_option maxRecDepth 100000 in
theorem lifted (os : Os) (started : os.Started) (H : Type) (enc : TypeId × Value → H) :
    ReturnsInHanded {} Try.checked os 3 .any (Rows.fnExactJoinLayersSpec.pre6 enc Try.prog Try.f3 Rows.fnExactJoinLayersRow.domain false) (Rows.fnExactJoinLayersSpec.post enc Try.prog Try.f3 false true false false) := by
  refine returnsInHanded_of_change (C := Try.checked) own started (by kernel_rfl) Try.func3
    (ChangeSpec.witness6 (enc := enc) (C := Try.checked) false ⟨#[], #[.slice none 0 0, .int .i64 0], []⟩ 8 (by kernel_rfl) (by kernel_rfl) (by kernel_rfl) (by kernel_rfl)) ?_
  intro W base args ds gs before hval0 hW hcnd _
  have hval : ∀ (j : Nat) t v, Try.f3.params[j]? = some t → args[j]? = some v → Value.okWide Try.prog W .any base t v := hval0
  have hW' := hW
  obtain ⟨p, q, hA0, hV, rfl, hfz, hnd⟩ := hW
  have hA : DataW.TrodAll enc Try.prog W 0 (fun _ => true) true Try.f3.params.toList args.toList ds p := hA0
  rw [Try.params3] at hA hval
  obtain ⟨v0, vs0, d0, ds0, p0, q0, hargs, rfl, rfl, h0, r0⟩ := trodAll_cons hA
  obtain ⟨v1, vs1, d1, ds1, p1, q1, rfl, rfl, rfl, h1, r1⟩ := trodAll_cons r0
  obtain ⟨rfl, rfl, rfl⟩ := trodAll_nil r1
  obtain rfl : args = #[v0, v1] := by cases args; simp_all
  obtain ⟨rfl, rfl⟩ := trodVars_none hV
  have k0 := h0
  have lt0 : ∀ x ∈ p0, x.block < W.heap.size := by obtain ⟨m, hm⟩ := k0; exact DataW.trod_lt m _ _ _ hm
  obtain ⟨a0, len0, cap0, z0, rfl, w0⟩ := open_layers (hval 0 22 v0 rfl rfl) h0
  obtain ⟨a1, rfl, rfl, rfl, w1⟩ := open_int Try.underlying2 (hval 1 2 v1 rfl rfl) h1
  clear hA0 hval0
  refine (walk W a0 len0 cap0 z0 w0 a1 w1).mono fun e W' ⟨he, bel⟩ => ?_
  subst he
  exact ⟨_, rfl, _, _, _, [], _, [], hW', trodAll_mk1 (shut_bool Try.underlying4 _), (trodAll_cons_mk (Below.trod laidOut (by kernel_rfl) (of_decide_eq_true (by kernel_rfl)) k0 bel lt0) (trodAll_cons_mk (shut_int Try.underlying2 w1) trodAll_mk0)), rfl, bel.frame _, fun h => by cases h⟩
theorem over : Rows.fnExactJoinLayersRow.holds Try.pinned (OpenSpec.ofChange Rows.fnExactJoinLayersSpec) :=
  OpenClaim.holds_of_wide 3 Try.f3 rfl rfl rfl rfl rfl rfl rfl ⟨rfl, rfl, rfl, rfl, rfl⟩ rfl rfl rfl rfl rfl (by kernel_rfl) Try.func3 (by kernel_rfl)
    (of_decide_eq_true (by kernel_rfl)) (by unfold Func.isWrapper; first | (rw [if_pos (by decide +kernel)]; kernel_rfl) | (rw [if_neg (by decide +kernel)]; exact ⟨rfl, rfl⟩))
    (fun os started H enc _ => lifted os started H enc)
theorem proved : Rows.FnExactJoinLayersSaid := over
#print axioms proved
end Go.Proofs.Ythlandlpjhdbdaa.fnExactJoinLayers
