/- The law FnExactAddLayer holds: the program's AddLayer returns what the reference's returns, in memory of its own, for every list of layers and every layer. No condition. -/
import Derived.Test.YtfndcahjjlcnaaaAdd
import Derived.Test.YtfndcahjjlcnaaaLyOpen
namespace Go.Proofs.Ytfndcahjjlcnaaa.fnExactAddLayer
open Go.ChangeShapes Go.WideShapes Go.ChangeAt Go.RowKit
open Go.ChangeMaps (open_string shut_string)
set_option linter.unusedVariables false
theorem addR_len (ls : List Ly) (x : Ly) (hn : ls.length ≤ 1048576) : (addR ls x).length ≤ 1048576 := by
  unfold addR
  split
  · rename_i h
    have h16 : ls.length ≤ 16 := by
      unfold addC at h
      split at h
      · rename_i h2
        simp only [Bool.and_eq_true] at h2
        exact okL_len h2.1
      · cases h
    simp only [List.length_append, List.length_cons, List.length_nil]
    omega
  · simp
set_option maxHeartbeats 4000000 in
set_option maxRecDepth 100000 in
theorem walk (w : World) (a0 : Option Addr) (n0 c0 : Nat) (z0 : List Ly) (w0 : LysIn w a0 n0 c0 z0) (a1 : Ly) (w1 : a1.wf) :
    Calls Try.prog 8 #[.slice a0 n0 c0, .agg #[.int .i64 a1.form, .int .i64 a1.ice, .int .i64 a1.water, .int .i64 a1.dens, .int .i64 a1.deg, .int .i64 a1.hard, .int .i64 a1.age]] w fun e w' => e = .returned (.bool true) ∧ Below w.heap.size w w' := by
  obtain ⟨rfl, hmax, hr⟩ := w0
  by_cases hbig : 1048576 < z0.length
  · go_enter Try.func8, Try.ntmps8
    go_wp2_with (go_at_call 10; refine (szLayerS_no _ _ _ _ _ (by omega) (by omega) (by omega) hmax).mono ?_; rintro e w' ⟨rfl, rfl⟩)
    go_ret
    exact ⟨rfl, bl_alloc (Below.refl _ _) _⟩
  have hn : z0.length ≤ 1048576 := by omega
  have hRn : (addR z0 a1).length ≤ 1048576 := addR_len _ _ hn
  clear hbig hmax w1
  have hl := LyAt.new w 38 a1
  have hbA := bl_alloc (Below.refl w.heap.size w) (.cells #[.int .i64 a1.form, .int .i64 a1.ice, .int .i64 a1.water, .int .i64 a1.dens, .int .i64 a1.deg, .int .i64 a1.hard, .int .i64 a1.age] 38)
  have hrA := hr.below hbA
  have hHn := Lib.hid hRn
  clear hRn
  go_enter Try.func8, Try.ntmps8
  go_wp2_with (go_at_call 10; refine (szLayerS_yes _ _ _ _ _ (by omega) (by omega)).mono ?_; rintro e w' ⟨rfl, rfl⟩)
  obtain ⟨p, hp⟩ : ∃ p, p = w.heap.size := ⟨_, rfl⟩
  rw [← hp] at hl
  rw [← hp]
  have HP := Lib.hid hp
  clear hp
  have hpl := hl.lt
  generalize w.alloc (.cells #[.int .i64 a1.form, .int .i64 a1.ice, .int .i64 a1.water, .int .i64 a1.dens, .int .i64 a1.deg, .int .i64 a1.hard, .int .i64 a1.age] 38) = wA at *
  have HR := Lib.hid hrA
  clear hrA
  go_cut [6, 7] (fun s6 s7 wx => ∃ (A0 : Option Addr) (c0' : Nat), s6 = .slice A0 (addR z0 a1).length c0' ∧ s7 = .int .i64 (addC z0 a1) ∧ RdL wx A0 (addR z0 a1) ∧ Below wA.heap.size wA wx)
  case first =>
    obtain ⟨c0, c1, c2, c3, c4, c5, c6⟩ := hl.box
    go_region_held3 (fun w' => w'.cell? ⟨p, 0, none⟩ = some (.int .i64 a1.form) ∧ w'.cell? ⟨p, 1, none⟩ = some (.int .i64 a1.ice) ∧ w'.cell? ⟨p, 2, none⟩ = some (.int .i64 a1.water) ∧ w'.cell? ⟨p, 3, none⟩ = some (.int .i64 a1.dens) ∧ w'.cell? ⟨p, 4, none⟩ = some (.int .i64 a1.deg) ∧ w'.cell? ⟨p, 5, none⟩ = some (.int .i64 a1.hard) ∧ w'.cell? ⟨p, 6, none⟩ = some (.int .i64 a1.age) ∧ Below wA.heap.size wA w') (first | exact S7_step hpl (by assumption) (by assumption) | exact S7_stepA hpl (by assumption) (by assumption) | (refine ⟨?_, ?_, ?_, ?_, ?_, ?_, ?_, ?_⟩ <;> first | assumption | exact Below.refl _ _ | exact (Below.refl _ _).drew | go_keep) | go_keep)
      (first
        | (go_at_call 12; refine (toLayerS_any a0 _ z0 _ (by first | exact HR.out.drewN 1 | exact RdL.below (HR.out.drewN 1) (by assumption)) hn).mono ?_; rintro e wS ⟨rfl, hOS, hbS⟩)
        | (go_at_call 24; refine (toLayer_any _ _).mono ?_; rintro e wT ⟨rfl, hbT⟩)
        | (go_at_call 23; refine (specAdd_any _ _ z0 a1 _ (by first | exact hOS.rd | exact (hOS.below (by assumption)).rd) hn).mono ?_; rintro e wU ⟨vU, rfl, hsU, hbU⟩; obtain ⟨AU, cU, rfl, hoU⟩ := hsU.out))
    all_goals
      go_wp2_with fail
      go_meet
      exact ⟨_, _, rfl, rfl, hoU.rd, S7_bl (by assumption)⟩
  case rest =>
    obtain ⟨A0, c0', rfl, rfl, hrd0, hb2⟩ := hcut
    have hb02 := hb2
    have hrc := HR.out.below hb2
    have hlc := hl.below hb2 hpl
    have hplc := hlc.lt
    go_wp2_with fail
    refine (toLayerS_any _ _ _ _ hrc hn).mono ?_
    rintro e w3 ⟨rfl, hO3, hb3⟩
    have hl3 := hlc.below hb3 hplc
    have hpl3 := hl3.lt
    obtain ⟨c0, c1, c2, c3, c4, c5, c6⟩ := hl3.box
    go_wp2_with fail
    clear c0 c1 c2 c3 c4 c5 c6
    refine (toLayer_any _ _).mono ?_
    rintro e w3' ⟨rfl, hbT⟩
    have hO3' := hO3.below hbT
    have hb3' := bl_trans hb3 hbT
    go_wp2_with fail
    refine (implAdd_any _ _ _ a1 _ hO3'.rd hn).mono ?_
    rintro e w4 ⟨v1, rfl, hs1, hb4⟩
    obtain ⟨A1, c1', rfl, ho1⟩ := hs1.out
    have hRn := hHn.out
    have hB23 : wc.heap.size < w3'.heap.size := hO3'.lt
    have hb24 := bl_trans hb3' hb4
    have hO4 := hO3'.below hb4
    go_wp2_with fail
    refine (eqLayerS_same _ _ _ _ _ _ ho1.rd (hrd0.below hb24) hRn).mono ?_
    rintro e w5 ⟨rfl, hb5⟩
    have hb25 := bl_trans hb24 hb5
    have ho5 := ho1.below hb5
    have hO5 := hO4.below hb5
    have hb05 := bl_trans hb02 hb25
    go_wp2_with fail
    refine (toLayerS_any _ _ _ _ (HR.out.below hb05) hn).mono ?_
    rintro e w6 ⟨rfl, hO6, hb6⟩
    have hb26 := bl_trans hb25 hb6
    have ho6 := ho5.below hb6
    have hX6 := hO5.below hb6
    go_wp2_with fail
    refine (eqLayerS_same _ _ _ _ _ _ hX6.rd hO6.rd hn).mono ?_
    rintro e w7 ⟨rfl, hb7⟩
    have hb27 := bl_trans hb26 hb7
    have ho7 := ho6.below hb7
    have hX7 := hX6.below hb7
    go_wp2_with fail
    refine (mark_own _ _ z0 1 _ hX7 hn (by omega) (by omega)).mono ?_
    rintro e w8 ⟨rfl, hM8, hg8⟩
    have ho8 := ho7.aside hg8 hB23
    have hb28 : Below wc.heap.size wc w8 := hb27.grown hg8 hb27.size (fun k hk => by injection hk with hk; omega)
    have d1 : decide ((1 : Int) + 7 * (z0.length : Int) < 0) = false := by simp; omega
    go_wp2_with fail
    refine (eqLayerS_same _ _ _ _ _ _ ho8.rd (hrd0.below hb28) hRn).mono ?_
    rintro e w9 ⟨rfl, hb9⟩
    have hb29 := bl_trans hb28 hb9
    have ho9 := ho8.below hb9
    have hB39 : w3'.heap.size ≤ w9.heap.size := Nat.le_trans hb4.size (Nat.le_trans hb5.size (Nat.le_trans hb6.size (Nat.le_trans hb7.size (Nat.le_trans hg8.size hb9.size))))
    go_wp2_with fail
    refine (mark_any _ _ _ 1 _ _ ho9 hRn (by omega) (by omega)).mono ?_
    rintro e w10 hm10
    obtain ⟨rfl, ho10, hb10'⟩ := hm10.use ho9 hB39
    have hb210 : Below wc.heap.size wc w10 := hb29.trans (hb10'.mono (by omega))
    have hb010 := bl_trans hb02 hb210
    clear hm10
    go_wp2_with fail
    refine (held_any _ _ _ 1 _ ho10.rd hRn (by omega) (by omega)).mono ?_
    rintro e w11 ⟨rfl, rfl⟩
    have d2 : decide ((1 : Int) + 7 * ((addR z0 a1).length : Int) < 0) = false := by simp; omega
    go_wp2_with fail
    have HR10 := Lib.hid (HR.out.below hb010)
    have hl10 := hl.below hb010 hpl
    have hpl0 := hpl
    have hpl := hl10.lt
    go_cut [14, 15] (fun s6 s7 wx => ∃ (A0 : Option Addr) (c0' : Nat), s6 = .slice A0 (addR z0 a1).length c0' ∧ s7 = .int .i64 (addC z0 a1) ∧ RdL wx A0 (addR z0 a1) ∧ Below w10.heap.size w10 wx)
    case first =>
      obtain ⟨c0, c1, c2, c3, c4, c5, c6⟩ := hl10.box
      go_region_held3 (fun w' => w'.cell? ⟨p, 0, none⟩ = some (.int .i64 a1.form) ∧ w'.cell? ⟨p, 1, none⟩ = some (.int .i64 a1.ice) ∧ w'.cell? ⟨p, 2, none⟩ = some (.int .i64 a1.water) ∧ w'.cell? ⟨p, 3, none⟩ = some (.int .i64 a1.dens) ∧ w'.cell? ⟨p, 4, none⟩ = some (.int .i64 a1.deg) ∧ w'.cell? ⟨p, 5, none⟩ = some (.int .i64 a1.hard) ∧ w'.cell? ⟨p, 6, none⟩ = some (.int .i64 a1.age) ∧ Below w10.heap.size w10 w') (first | exact S7_step hpl (by assumption) (by assumption) | exact S7_stepA hpl (by assumption) (by assumption) | (refine ⟨?_, ?_, ?_, ?_, ?_, ?_, ?_, ?_⟩ <;> first | assumption | exact Below.refl _ _ | exact (Below.refl _ _).drew | go_keep) | go_keep)
        (first
          | (go_at_call 12; refine (toLayerS_any a0 _ z0 _ (by first | exact HR10.out.drewN 1 | exact RdL.below (HR10.out.drewN 1) (by assumption)) hn).mono ?_; rintro e wS ⟨rfl, hOS, hbS⟩)
          | (go_at_call 24; refine (toLayer_any _ _).mono ?_; rintro e wT ⟨rfl, hbT⟩)
          | (go_at_call 25; refine (implAdd_any _ _ z0 a1 _ (by first | exact hOS.rd | exact (hOS.below (by assumption)).rd) hn).mono ?_; rintro e wU ⟨vU, rfl, hsU, hbU⟩; obtain ⟨AU, cU, rfl, hoU⟩ := hsU.out))
      all_goals
        go_wp2_with fail
        go_meet
        exact ⟨_, _, rfl, rfl, hoU.rd, S7_bl (by assumption)⟩
    case rest =>
      obtain ⟨A2, c2', rfl, rfl, hrd2, hb1013⟩ := hcut
      have hb213 := bl_trans hb210 hb1013
      have ho13 := ho10.below hb1013
      go_wp2_with fail
      refine (eqLayerS_same _ _ _ _ _ _ hrd2 (hrd0.below hb213) hRn).mono ?_
      rintro e w14 ⟨rfl, hb14⟩
      have ho14 := ho13.below hb14
      have hb214 := bl_trans hb213 hb14
      go_wp2_with fail
      refine (held_any _ _ _ 1 _ ho14.rd hRn (by omega) (by omega)).mono ?_
      rintro e w15 ⟨rfl, rfl⟩
      go_wp2_with fail
      go_ret
      exact ⟨rfl, bl_trans hbA (bl_trans hb02 hb214)⟩
theorem own : ownKnob Try.prog.godebug = none := by kernel_rfl
theorem laidOut : laidOutB Try.prog = true := by kernel_rfl
set_option maxRecDepth 100000 in
theorem lifted (os : Os) (started : os.Started) (H : Type) (enc : TypeId × Value → H) :
    ReturnsInHanded {} Try.checked os 8 .any (Rows.fnExactAddLayerSpec.pre6 enc Try.prog Try.f8 Rows.fnExactAddLayerRow.domain false) (Rows.fnExactAddLayerSpec.post enc Try.prog Try.f8 false true false false) := by
  refine returnsInHanded_of_change (C := Try.checked) own started (by kernel_rfl) Try.func8
    (ChangeSpec.witness6 (enc := enc) (C := Try.checked) false ⟨#[], #[.slice none 0 0, .agg #[.int .i64 0, .int .i64 0, .int .i64 0, .int .i64 0, .int .i64 0, .int .i64 0, .int .i64 0]], []⟩ 8 (by kernel_rfl) (by kernel_rfl) (by kernel_rfl) (by kernel_rfl)) ?_
  intro W base args ds gs before hval0 hW hcnd _
  have hval : ∀ (j : Nat) t v, Try.f8.params[j]? = some t → args[j]? = some v → Value.okWide Try.prog W .any base t v := hval0
  have hW' := hW
  obtain ⟨p, q, hA0, hV, rfl, hfz, hnd⟩ := hW
  have hA : DataW.TrodAll enc Try.prog W 0 (fun _ => true) true Try.f8.params.toList args.toList ds p := hA0
  rw [Try.params8] at hA hval
  obtain ⟨v0, vs0, d0, ds0, p0, q0, hargs, rfl, rfl, h0, r0⟩ := trodAll_cons hA
  obtain ⟨v1, vs1, d1, ds1, p1, q1, rfl, rfl, rfl, h1, r1⟩ := trodAll_cons r0
  obtain ⟨rfl, rfl, rfl⟩ := trodAll_nil r1
  obtain rfl : args = #[v0, v1] := by cases args; simp_all
  obtain ⟨rfl, rfl⟩ := trodVars_none hV
  have k0 := h0
  have lt0 : ∀ x ∈ p0, x.block < W.heap.size := by obtain ⟨m, hm⟩ := k0; exact DataW.trod_lt m _ _ _ hm
  obtain ⟨a0, len0, cap0, z0, rfl, w0⟩ := open_layers (hval 0 22 v0 rfl rfl) h0
  have k1 := h1
  have lt1 : ∀ x ∈ p1, x.block < W.heap.size := by obtain ⟨m, hm⟩ := k1; exact DataW.trod_lt m _ _ _ hm
  obtain ⟨a1, rfl, w1⟩ := open_layer (hval 1 38 v1 rfl rfl) h1
  clear hA0 hval0
  refine (walk W a0 len0 cap0 z0 w0 a1 w1).mono fun e W' ⟨he, bel⟩ => ?_
  subst he
  exact ⟨_, rfl, _, _, _, [], _, [], hW', trodAll_mk1 (shut_bool Try.underlying4 _), (trodAll_cons_mk (Below.trod laidOut (by kernel_rfl) (of_decide_eq_true (by kernel_rfl)) k0 bel lt0) (trodAll_cons_mk (Below.trod laidOut (by kernel_rfl) (of_decide_eq_true (by kernel_rfl)) k1 bel lt1) trodAll_mk0)), rfl, bel.frame _, fun h => by cases h⟩
theorem over : Rows.fnExactAddLayerRow.holds Try.pinned (OpenSpec.ofChange Rows.fnExactAddLayerSpec) :=
  OpenClaim.holds_of_wide 8 Try.f8 rfl rfl rfl rfl rfl rfl rfl ⟨rfl, rfl, rfl, rfl, rfl⟩ rfl rfl rfl rfl rfl (by kernel_rfl) Try.func8 (by kernel_rfl)
    (of_decide_eq_true (by kernel_rfl)) (by unfold Func.isWrapper; first | (rw [if_pos (by decide +kernel)]; kernel_rfl) | (rw [if_neg (by decide +kernel)]; exact ⟨rfl, rfl⟩))
    (fun os started H enc _ => lifted os started H enc)
theorem proved : Rows.FnExactAddLayerSaid := over
#print axioms proved
end Go.Proofs.Ytfndcahjjlcnaaa.fnExactAddLayer
