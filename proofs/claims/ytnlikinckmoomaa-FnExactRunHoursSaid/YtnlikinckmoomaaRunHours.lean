/- The law FnExactRunHours holds: the program's RunHours returns what the reference's returns, in memory of its own, for every list of layers and of int64. No condition. -/
import Derived.Test.YtnlikinckmoomaaRunH
import Derived.Test.YtnlikinckmoomaaLyOpen
namespace Go.Proofs.Ytnlikinckmoomaa.fnExactRunHours
open Go.ChangeShapes Go.WideShapes Go.ChangeAt Go.RowKit
open Go.ChangeMaps (open_string shut_string)
set_option linter.unusedVariables false
theorem OwnO.past {w w' : World} {B B' : Nat} {A : Option Addr} {ls : List Ly} (h : OwnO w B A ls) (hb : Below w.heap.size w w') : OwnO w' B A ls := h.below hb
set_option maxHeartbeats 8000000 in
set_option maxRecDepth 100000 in
theorem walk (w : World) (a0 : Option Addr) (n0 c0 : Nat) (z0 : List Ly) (w0 : LysIn w a0 n0 c0 z0) (a1 : Option Addr) (n1 c1 : Nat) (z1 : List Int) (v1 : IntsIn w a1 n1 c1 z1) :
    Calls Try.prog 10 #[.slice a0 n0 c0, .slice a1 n1 c1] w fun e w' => e = .returned (.bool true) ∧ Below w.heap.size w w' := by
  obtain ⟨rfl, hmax, hr⟩ := w0
  obtain ⟨rfl, jmax, hi, hwf⟩ := v1
  unfold maxLen at jmax
  by_cases jbig : 1048576 < z1.length
  · go_enter Try.func10, Try.ntmps10
    go_wp2_with fail
    go_ret
    exact ⟨rfl, Below.refl _ _⟩
  by_cases hbig : 1048576 < z0.length
  · go_enter Try.func10, Try.ntmps10
    go_wp2_with (go_at_call 11; refine (szLayerS_no _ _ _ _ _ (by omega) (by omega) (by omega) hmax).mono ?_; rintro e w' ⟨rfl, rfl⟩)
    go_ret
    exact ⟨rfl, Below.refl _ _⟩
  have hn : z0.length ≤ 1048576 := by omega
  have jn : z1.length ≤ 1048576 := by omega
  have hRn : (hoursR z0 z1).length ≤ 1048576 := hoursR_len _ _
  have HWF := Lib.hid hwf
  clear hbig hmax jbig jmax hwf
  go_enter Try.func10, Try.ntmps10
  go_wp2_with (go_at_call 11; refine (szLayerS_yes _ _ _ _ _ (by omega) (by omega)).mono ?_; rintro e w' ⟨rfl, rfl⟩)
  refine (toLayerS_any _ _ _ _ hr hn).mono ?_
  rintro e w1 ⟨rfl, hO1, hb1⟩
  go_wp2_with fail
  refine (toInt64S_any _ _ _ _ (hi.below hb1) jn).mono ?_
  rintro e w1' ⟨rfl, hI1, hb1'⟩
  have hO1' := hO1.below hb1'
  go_wp2_with fail
  refine (specRun_any _ _ _ _ _ _ _ hO1'.rd hn hI1.rd jn HWF.out).mono ?_
  rintro e w2 ⟨v0, rfl, ⟨A0, c0', rfl, ho0⟩, hb2⟩
  have hrd0 := ho0.rd
  have hb02 := bl_trans (bl_trans hb1 hb1') hb2
  go_wp2_with fail
  refine (toLayerS_any _ _ _ _ (hr.below hb02) hn).mono ?_
  rintro e w3 ⟨rfl, hO3, hb3⟩
  have hB23 : w2.heap.size < w3.heap.size := hO3.lt
  go_wp2_with fail
  refine (toInt64S_any _ _ _ _ (hi.below (bl_trans hb02 hb3)) jn).mono ?_
  rintro e w3' ⟨rfl, hI3, hb3'⟩
  have hO3' := hO3.below hb3'
  have hB33 : w3.heap.size < w3'.heap.size := hI3.lt
  go_wp2_with fail
  refine (implRun_any _ _ _ _ _ _ _ hO3'.rd hn hI3.rd jn).mono ?_
  rintro e w4 ⟨v1, rfl, ⟨A1, c1', rfl, ho1⟩, hb4⟩
  have hb24 := bl_trans (bl_trans hb3 hb3') hb4
  have hO4 := hO3'.below hb4
  have hI4 := hI3.below hb4
  go_wp2_with fail
  refine (eqLayerS_same _ _ _ _ _ _ ho1.rd (hrd0.below hb24) hRn).mono ?_
  rintro e w5 ⟨rfl, hb5⟩
  have hb25 := bl_trans hb24 hb5
  have ho5 := ho1.below hb5
  have hO5 := hO4.below hb5
  have hI5 := hI4.below hb5
  have hb05 := bl_trans hb02 hb25
  go_wp2_with fail
  refine (toLayerS_any _ _ _ _ (hr.below hb05) hn).mono ?_
  rintro e w6 ⟨rfl, hO6, hb6⟩
  have hb26 := bl_trans hb25 hb6
  have ho6 := ho5.below hb6
  have hX6 := hO5.below hb6
  have hI6 := hI5.below hb6
  go_wp2_with fail
  refine (eqLayerS_same _ _ _ _ _ _ hX6.rd hO6.rd hn).mono ?_
  rintro e w7 ⟨rfl, hb7⟩
  have hb27 := bl_trans hb26 hb7
  have ho7 := ho6.below hb7
  have hX7 := hX6.below hb7
  have hI7 := hI6.below hb7
  have hb07 := bl_trans hb02 hb27
  go_wp2_with fail
  refine (toInt64S_any _ _ _ _ (hi.below hb07) jn).mono ?_
  rintro e w7a ⟨rfl, hJ7, hb7a⟩
  have ho7a := ho7.below hb7a
  have hX7a := hX7.below hb7a
  have hI7a := hI7.below hb7a
  go_wp2_with fail
  refine (eqInt64S_same _ _ _ _ _ _ hI7a.rd hJ7.rd jn).mono ?_
  rintro e w7b ⟨rfl, hb7b⟩
  have hb27b := bl_trans (bl_trans hb27 hb7a) hb7b
  have ho7b := ho7a.below hb7b
  have hX7b := hX7a.below hb7b
  have hI7b := hI7a.below hb7b
  go_wp2_with fail
  refine (mark_own _ _ z0 1 _ hX7b hn (by omega) (by omega)).mono ?_
  rintro e w8 ⟨rfl, hM8, hg8⟩
  have ho8 := ho7b.aside hg8 (Nat.lt_trans hB23 hB33)
  have hI8 := hI7b.of_block (hg8.block _ hI7b.lt (fun e => by injection e with e; omega))
  have hb28 : Below w2.heap.size w2 w8 := hb27b.grown hg8 hb27b.size (fun k hk => by injection hk with hk; omega)
  go_wp2_with fail
  refine (markI_own _ _ z1 _ _ hI8 jn (by omega) (by omega)).mono ?_
  rintro e w8a ⟨rfl, hM8a, hg8a⟩
  have ho8a := ho8.aside hg8a hB33
  have hb28a : Below w2.heap.size w2 w8a := hb28.grown hg8a hb28.size (fun k hk => by injection hk with hk; omega)
  have d1 : decide ((1 : Int) + 7 * (z0.length : Int) + (z1.length : Int) < 0) = false := by simp; omega
  go_wp2_with fail
  refine (eqLayerS_same _ _ _ _ _ _ ho8a.rd (hrd0.below hb28a) hRn).mono ?_
  rintro e w9 ⟨rfl, hb9⟩
  have hb29 := bl_trans hb28a hb9
  have ho9 := ho8a.below hb9
  have hB39 : w3'.heap.size ≤ w9.heap.size := Nat.le_trans hb4.size (Nat.le_trans hb5.size (Nat.le_trans hb6.size (Nat.le_trans hb7.size (Nat.le_trans hb7a.size (Nat.le_trans hb7b.size (Nat.le_trans hg8.size (Nat.le_trans hg8a.size hb9.size)))))))
  go_wp2_with fail
  refine (mark_any _ _ _ 1 _ _ ho9 hRn (by omega) (by omega)).mono ?_
  rintro e w10 hm10
  obtain ⟨rfl, ho10, hb10'⟩ := hm10.use ho9 hB39
  have hb210 : Below w2.heap.size w2 w10 := hb29.trans (hb10'.mono (by omega))
  have hb010 := bl_trans hb02 hb210
  clear hm10
  go_wp2_with fail
  refine (held_any _ _ _ 1 _ ho10.rd hRn (by omega) (by omega)).mono ?_
  rintro e w11 ⟨rfl, rfl⟩
  have d2 : decide ((1 : Int) + 7 * ((hoursR z0 z1).length : Int) < 0) = false := by simp; omega
  go_wp2_with fail
  refine (toLayerS_any _ _ _ _ (hr.below hb010) hn).mono ?_
  rintro e w12 ⟨rfl, hO12, hb12⟩
  go_wp2_with fail
  refine (toInt64S_any _ _ _ _ (hi.below (bl_trans hb010 hb12)) jn).mono ?_
  rintro e w12' ⟨rfl, hI12, hb12'⟩
  have hO12' := hO12.below hb12'
  go_wp2_with fail
  refine (implRun_any _ _ _ _ _ _ _ hO12'.rd hn hI12.rd jn).mono ?_
  rintro e w13 ⟨v2, rfl, ⟨A2, c2', rfl, ho2⟩, hb13⟩
  have hb1013 := bl_trans (bl_trans hb12 hb12') hb13
  have hb213 := bl_trans hb210 hb1013
  have ho13 := ho10.below hb1013
  go_wp2_with fail
  refine (eqLayerS_same _ _ _ _ _ _ ho2.rd (hrd0.below hb213) hRn).mono ?_
  rintro e w14 ⟨rfl, hb14⟩
  have ho14 := ho13.below hb14
  have hb214 := bl_trans hb213 hb14
  go_wp2_with fail
  refine (held_any _ _ _ 1 _ ho14.rd hRn (by omega) (by omega)).mono ?_
  rintro e w15 ⟨rfl, rfl⟩
  go_wp2_with fail
  go_ret
  exact ⟨rfl, bl_trans hb02 hb214⟩
theorem own : ownKnob Try.prog.godebug = none := by kernel_rfl
theorem laidOut : laidOutB Try.prog = true := by kernel_rfl
set_option maxRecDepth 100000 in
theorem lifted (os : Os) (started : os.Started) (H : Type) (enc : TypeId × Value → H) :
    ReturnsInHanded {} Try.checked os 10 .any (Rows.fnExactRunHoursSpec.pre6 enc Try.prog Try.f10 Rows.fnExactRunHoursRow.domain false) (Rows.fnExactRunHoursSpec.post enc Try.prog Try.f10 false true false false) := by
  refine returnsInHanded_of_change (C := Try.checked) own started (by kernel_rfl) Try.func10
    (ChangeSpec.witness6 (enc := enc) (C := Try.checked) false ⟨#[], #[.slice none 0 0, .slice none 0 0], []⟩ 8 (by kernel_rfl) (by kernel_rfl) (by kernel_rfl) (by kernel_rfl)) ?_
  intro W base args ds gs before hval0 hW hcnd _
  have hval : ∀ (j : Nat) t v, Try.f10.params[j]? = some t → args[j]? = some v → Value.okWide Try.prog W .any base t v := hval0
  have hW' := hW
  obtain ⟨p, q, hA0, hV, rfl, hfz, hnd⟩ := hW
  have hA : DataW.TrodAll enc Try.prog W 0 (fun _ => true) true Try.f10.params.toList args.toList ds p := hA0
  rw [Try.params10] at hA hval
  obtain ⟨v0, vs0, d0, ds0, p0, q0, hargs, rfl, rfl, h0, r0⟩ := trodAll_cons hA
  obtain ⟨v1, vs1, d1, ds1, p1, q1, rfl, rfl, rfl, h1, r1⟩ := trodAll_cons r0
  obtain ⟨rfl, rfl, rfl⟩ := trodAll_nil r1
  obtain rfl : args = #[v0, v1] := by cases args; simp_all
  obtain ⟨rfl, rfl⟩ := trodVars_none hV
  have k0 := h0
  have lt0 : ∀ x ∈ p0, x.block < W.heap.size := by obtain ⟨m, hm⟩ := k0; exact DataW.trod_lt m _ _ _ hm
  obtain ⟨a0, len0, cap0, z0, rfl, w0⟩ := open_layers (hval 0 22 v0 rfl rfl) h0
  have k1 := h1
  have lt1 : ∀ x ∈ p1, x.block < W.heap.size := by obtain ⟨m, hm⟩ := k1; exact DataW.trod_lt m _ _ _ hm
  obtain ⟨a1, len1, cap1, z1, rfl, w1⟩ := open_int64s (hval 1 36 v1 rfl rfl) h1
  clear hA0 hval0
  refine (walk W a0 len0 cap0 z0 w0 a1 len1 cap1 z1 w1).mono fun e W' ⟨he, bel⟩ => ?_
  subst he
  exact ⟨_, rfl, _, _, _, [], _, [], hW', trodAll_mk1 (shut_bool Try.underlying4 _), (trodAll_cons_mk (Below.trod laidOut (by kernel_rfl) (of_decide_eq_true (by kernel_rfl)) k0 bel lt0) (trodAll_cons_mk (Below.trod laidOut (by kernel_rfl) (of_decide_eq_true (by kernel_rfl)) k1 bel lt1) trodAll_mk0)), rfl, bel.frame _, fun h => by cases h⟩
theorem over : Rows.fnExactRunHoursRow.holds Try.pinned (OpenSpec.ofChange Rows.fnExactRunHoursSpec) :=
  OpenClaim.holds_of_wide 10 Try.f10 rfl rfl rfl rfl rfl rfl rfl ⟨rfl, rfl, rfl, rfl, rfl⟩ rfl rfl rfl rfl rfl (by kernel_rfl) Try.func10 (by kernel_rfl)
    (of_decide_eq_true (by kernel_rfl)) (by unfold Func.isWrapper; first | (rw [if_pos (by decide +kernel)]; kernel_rfl) | (rw [if_neg (by decide +kernel)]; exact ⟨rfl, rfl⟩))
    (fun os started H enc _ => lifted os started H enc)
theorem proved : Rows.FnExactRunHoursSaid := over
#print axioms proved
end Go.Proofs.Ytnlikinckmoomaa.fnExactRunHours
