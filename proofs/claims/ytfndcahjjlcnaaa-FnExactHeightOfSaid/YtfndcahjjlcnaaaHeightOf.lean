/- The law FnExactHeightOf holds: the program's HeightOf returns what the reference's returns, for every list of layers. No condition. -/
import Derived.Test.YtfndcahjjlcnaaaHeight
import Derived.Test.YtfndcahjjlcnaaaLyOpen
namespace Go.Proofs.Ytfndcahjjlcnaaa.fnExactHeightOf
open Go.ChangeShapes Go.WideShapes Go.ChangeAt Go.RowKit
open Go.ChangeMaps (open_string shut_string)
set_option linter.unusedVariables false
set_option maxHeartbeats 1000000 in
theorem walk (w : World) (a0 : Option Addr) (n0 c0 : Nat) (z0 : List Ly) (w0 : LysIn w a0 n0 c0 z0)  :
    Calls Try.prog 3 #[.slice a0 n0 c0] w fun e w' => e = .returned (.bool true) ∧ Below w.heap.size w w' := by
  obtain ⟨rfl, hmax, hr⟩ := w0
  by_cases hbig : 1048576 < z0.length
  · go_enter Try.func3, Try.ntmps3
    go_wp2_with (go_at_call 10; refine (szLayerS_no _ _ _ _ _ (by omega) (by omega) (by omega) hmax).mono ?_; rintro e w' ⟨rfl, rfl⟩)
    go_ret
    exact ⟨rfl, Below.refl _ _⟩
  have hn : z0.length ≤ 1048576 := by omega
  clear hbig hmax
  go_enter Try.func3, Try.ntmps3
  go_wp2_with (go_at_call 10; refine (szLayerS_yes _ _ _ _ _ (by omega) (by omega)).mono ?_; rintro e w' ⟨rfl, rfl⟩)
  refine (toLayerS_any _ _ _ _ hr hn).mono ?_
  rintro e w1 ⟨rfl, hO1, hb1⟩
  go_wp2_with fail
  refine (specHeight_any _ _ _ _ hO1.rd hn).mono ?_
  rintro e w2 ⟨rfl, hb2⟩
  have hb02 := bl_trans hb1 hb2
  go_wp2_with fail
  refine (toLayerS_any _ _ _ _ (hr.below hb02) hn).mono ?_
  rintro e w3 ⟨rfl, hO3, hb3⟩
  go_wp2_with fail
  refine (implHeight_any _ _ _ _ hO3.rd hn).mono ?_
  rintro e w4 ⟨rfl, hb4⟩
  have hb04 := bl_trans (bl_trans hb02 hb3) hb4
  have hO4 := hO3.below hb4
  go_wp2_with fail
  refine (toLayerS_any _ _ _ _ (hr.below hb04) hn).mono ?_
  rintro e w5 ⟨rfl, hO5, hb5⟩
  have hO6 := hO4.below hb5
  go_wp2_with fail
  refine (eqLayerS_same _ _ _ _ _ _ hO6.rd hO5.rd hn).mono ?_
  rintro e w6 ⟨rfl, hb6⟩
  go_wp2_with fail
  go_ret
  exact ⟨rfl, bl_trans (bl_trans hb04 hb5) hb6⟩
theorem own : ownKnob Try.prog.godebug = none := by kernel_rfl
theorem laidOut : laidOutB Try.prog = true := by kernel_rfl
set_option maxRecDepth 100000 in
theorem lifted (os : Os) (started : os.Started) (H : Type) (enc : TypeId × Value → H) :
    ReturnsInHanded {} Try.checked os 3 .any (Rows.fnExactHeightOfSpec.pre6 enc Try.prog Try.f3 Rows.fnExactHeightOfRow.domain false) (Rows.fnExactHeightOfSpec.post enc Try.prog Try.f3 false true false false) := by
  refine returnsInHanded_of_change (C := Try.checked) own started (by kernel_rfl) Try.func3
    (ChangeSpec.witness6 (enc := enc) (C := Try.checked) false ⟨#[], #[.slice none 0 0], []⟩ 8 (by kernel_rfl) (by kernel_rfl) (by kernel_rfl) (by kernel_rfl)) ?_
  intro W base args ds gs before hval0 hW hcnd _
  have hval : ∀ (j : Nat) t v, Try.f3.params[j]? = some t → args[j]? = some v → Value.okWide Try.prog W .any base t v := hval0
  have hW' := hW
  obtain ⟨p, q, hA0, hV, rfl, hfz, hnd⟩ := hW
  have hA : DataW.TrodAll enc Try.prog W 0 (fun _ => true) true Try.f3.params.toList args.toList ds p := hA0
  rw [Try.params3] at hA hval
  obtain ⟨v0, vs0, d0, ds0, p0, q0, hargs, rfl, rfl, h0, r0⟩ := trodAll_cons hA
  obtain ⟨rfl, rfl, rfl⟩ := trodAll_nil r0
  obtain rfl : args = #[v0] := by cases args; simp_all
  obtain ⟨rfl, rfl⟩ := trodVars_none hV
  have k0 := h0
  have lt0 : ∀ x ∈ p0, x.block < W.heap.size := by obtain ⟨m, hm⟩ := k0; exact DataW.trod_lt m _ _ _ hm
  obtain ⟨a0, len0, cap0, z0, rfl, w0⟩ := open_layers (hval 0 22 v0 rfl rfl) h0
  clear hA0 hval0
  refine (walk W a0 len0 cap0 z0 w0).mono fun e W' ⟨he, bel⟩ => ?_
  subst he
  exact ⟨_, rfl, _, _, _, [], _, [], hW', trodAll_mk1 (shut_bool Try.underlying4 _), (trodAll_cons_mk (Below.trod laidOut (by kernel_rfl) (of_decide_eq_true (by kernel_rfl)) k0 bel lt0) trodAll_mk0), rfl, bel.frame _, fun h => by cases h⟩
theorem over : Rows.fnExactHeightOfRow.holds Try.pinned (OpenSpec.ofChange Rows.fnExactHeightOfSpec) :=
  OpenClaim.holds_of_wide 3 Try.f3 rfl rfl rfl rfl rfl rfl rfl ⟨rfl, rfl, rfl, rfl, rfl⟩ rfl rfl rfl rfl rfl (by kernel_rfl) Try.func3 (by kernel_rfl)
    (of_decide_eq_true (by kernel_rfl)) (by unfold Func.isWrapper; first | (rw [if_pos (by decide +kernel)]; kernel_rfl) | (rw [if_neg (by decide +kernel)]; exact ⟨rfl, rfl⟩))
    (fun os started H enc _ => lifted os started H enc)
theorem proved : Rows.FnExactHeightOfSaid := over
#print axioms proved
end Go.Proofs.Ytfndcahjjlcnaaa.fnExactHeightOf
