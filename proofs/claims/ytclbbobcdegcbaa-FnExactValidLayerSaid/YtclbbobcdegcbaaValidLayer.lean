/- The law FnExactValidLayer holds: the program's ValidLayer returns what the reference's returns, for every layer. No condition. -/
import Derived.Test.YtclbbobcdegcbaaLayer
namespace Go.Proofs.Ytclbbobcdegcbaa.fnExactValidLayer
open Go.ChangeShapes Go.WideShapes Go.ChangeAt Go.RowKit
open Go.ChangeMaps (open_string shut_string)
set_option linter.unusedVariables false
theorem spec_any (x : Ly) (w : World) : Calls Try.prog 29 #[.agg #[.int .i64 x.form, .int .i64 x.ice, .int .i64 x.water, .int .i64 x.dens, .int .i64 x.deg, .int .i64 x.hard, .int .i64 x.age]] w fun e w' => e = .returned (.bool (lyOk x)) ∧ Below w.heap.size w w' := by
  go_enter Try.func29, Try.ntmps29
  go_wp2_with (go_at_call 47; refine (l03One_any x _ _ _ ?hl).mono ?_)
  case hl => constructor <;> simp [go_sem]
  rintro e w' ⟨rfl, rfl⟩
  go_wp2
  go_ret
  exact ⟨rfl, by repeat (first | exact Below.refl _ _ | apply bl_alloc)⟩
theorem walk (a0 : Ly) (w0 : a0.wf) (w : World) :
    Calls Try.prog 11 #[.agg #[.int .i64 a0.form, .int .i64 a0.ice, .int .i64 a0.water, .int .i64 a0.dens, .int .i64 a0.deg, .int .i64 a0.hard, .int .i64 a0.age]] w fun e w' => e = .returned (.bool true) ∧ Below w.heap.size w w' := by
  clear w0
  go_enter Try.func11, Try.ntmps11
  go_wp2_with (fail)
  refine (toLayer_any _ _).mono ?_
  rintro e w1 ⟨rfl, hb1⟩
  have L1 := (LyAt.new w 30 a0).below hb1 (by simp)
  have m1 : w.heap.size < w1.heap.size := Nat.lt_of_lt_of_le (by simp) hb1.size
  go_wp2_with (fail)
  refine (spec_any _ _).mono ?_
  rintro e w2 ⟨rfl, hb2⟩
  have L2 := L1.below hb2 m1
  have m2 : w.heap.size < w2.heap.size := Nat.lt_of_lt_of_le m1 hb2.size
  obtain ⟨c0, c1, c2, c3, c4, c5, c6⟩ := L2.box
  go_wp2_with (fail)
  clear c0 c1 c2 c3 c4 c5 c6
  refine (toLayer_any _ _).mono ?_
  rintro e w3 ⟨rfl, hb3⟩
  go_wp2_with (fail)
  refine (validLayer_any _ _).mono ?_
  rintro e w4 ⟨rfl, hb4⟩
  go_wp2_with (fail)
  go_ret
  exact ⟨rfl, bl_trans (bl_trans (bl_trans (bl_trans (by repeat (first | exact Below.refl _ _ | apply bl_alloc)) hb1) hb2) hb3) hb4⟩
theorem own : ownKnob Try.prog.godebug = none := by kernel_rfl
theorem laidOut : laidOutB Try.prog = true := by kernel_rfl
set_option maxRecDepth 100000 in
theorem lifted (os : Os) (started : os.Started) (H : Type) (enc : TypeId × Value → H) :
    ReturnsInHanded {} Try.checked os 11 .any (Rows.fnExactValidLayerSpec.pre6 enc Try.prog Try.f11 Rows.fnExactValidLayerRow.domain false) (Rows.fnExactValidLayerSpec.post enc Try.prog Try.f11 false true false false) := by
  refine returnsInHanded_of_change (C := Try.checked) own started (by kernel_rfl) Try.func11
    (ChangeSpec.witness6 (enc := enc) (C := Try.checked) false ⟨#[], #[.agg #[.int .i64 0, .int .i64 0, .int .i64 0, .int .i64 0, .int .i64 0, .int .i64 0, .int .i64 0]], []⟩ 8 (by kernel_rfl) (by kernel_rfl) (by kernel_rfl) (by kernel_rfl)) ?_
  intro W base args ds gs before hval0 hW hcnd _
  have hval : ∀ (j : Nat) t v, Try.f11.params[j]? = some t → args[j]? = some v → Value.okWide Try.prog W .any base t v := hval0
  have hW' := hW
  obtain ⟨p, q, hA0, hV, rfl, hfz, hnd⟩ := hW
  have hA : DataW.TrodAll enc Try.prog W 0 (fun _ => true) true Try.f11.params.toList args.toList ds p := hA0
  rw [Try.params11] at hA hval
  obtain ⟨v0, vs0, d0, ds0, p0, q0, hargs, rfl, rfl, h0, r0⟩ := trodAll_cons hA
  obtain ⟨rfl, rfl, rfl⟩ := trodAll_nil r0
  obtain rfl : args = #[v0] := by cases args; simp_all
  obtain ⟨rfl, rfl⟩ := trodVars_none hV
  have k0 := h0
  have lt0 : ∀ x ∈ p0, x.block < W.heap.size := by obtain ⟨m, hm⟩ := k0; exact DataW.trod_lt m _ _ _ hm
  obtain ⟨a0, rfl, w0⟩ := open_layer (hval 0 30 v0 rfl rfl) h0
  clear hA0 hval0
  refine (walk a0 w0 W).mono fun e W' ⟨he, bel⟩ => ?_
  subst he
  exact ⟨_, rfl, _, _, _, [], _, [], hW', trodAll_mk1 (shut_bool Try.underlying4 _), (trodAll_cons_mk (Below.trod laidOut (by kernel_rfl) (of_decide_eq_true (by kernel_rfl)) k0 bel lt0) trodAll_mk0), rfl, bel.frame _, fun h => by cases h⟩
theorem over : Rows.fnExactValidLayerRow.holds Try.pinned (OpenSpec.ofChange Rows.fnExactValidLayerSpec) :=
  OpenClaim.holds_of_wide 11 Try.f11 rfl rfl rfl rfl rfl rfl rfl ⟨rfl, rfl, rfl, rfl, rfl⟩ rfl rfl rfl rfl rfl (by kernel_rfl) Try.func11 (by kernel_rfl)
    (of_decide_eq_true (by kernel_rfl)) (by unfold Func.isWrapper; first | (rw [if_pos (by decide +kernel)]; kernel_rfl) | (rw [if_neg (by decide +kernel)]; exact ⟨rfl, rfl⟩))
    (fun os started H enc _ => lifted os started H enc)
theorem proved : Rows.FnExactValidLayerSaid := over
#print axioms proved
end Go.Proofs.Ytclbbobcdegcbaa.fnExactValidLayer
