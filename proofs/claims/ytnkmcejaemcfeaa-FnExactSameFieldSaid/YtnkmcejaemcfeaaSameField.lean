/- The law FnExactSameField holds: the program's SameField returns what the reference's returns, for all pairs of fields. No condition. -/
import Derived.Test.YtnkmcejaemcfeaaFldSame
import Derived.Test.YtnkmcejaemcfeaaFldBx
import Derived.Deep.DeepCutAuto
namespace Go.Proofs.Ytnkmcejaemcfeaa.fnExactSameField
open Go.ChangeShapes Go.WideShapes Go.ChangeAt Go.RowKit Go.Deep Go.Joins
open Go.ChangeMaps (open_string shut_string)
set_option linter.unusedVariables false
set_option maxRecDepth 100000 in
set_option maxHeartbeats 8000000 in
theorem walk (w : World) (r0 s0 : Int) (A0 : Option Addr) (n0 k0 : Nat) (z0 : List Int) (h0 : FieldIn w r0 s0 A0 n0 k0 z0) (r1 s1 : Int) (A1 : Option Addr) (n1 k1 : Nat) (z1 : List Int) (h1 : FieldIn w r1 s1 A1 n1 k1 z1) :
    Calls Try.prog 12 #[.agg #[.int .i64 r0, .int .i64 s0, .slice A0 n0 k0], .agg #[.int .i64 r1, .int .i64 s1, .slice A1 n1 k1]] w fun e w' => e = .returned (.bool true) ∧ Below w.heap.size w w' := by
  obtain ⟨rfl, hm0, hr0, _, _, _⟩ := h0
  obtain ⟨rfl, hm1, hr1, _, _, _⟩ := h1
  have hbB := bl_alloc (bl_alloc (Below.refl w.heap.size w) (.cells #[.int .i64 r0, .int .i64 s0, .slice A0 z0.length k0] 41)) (.cells #[.int .i64 r1, .int .i64 s1, .slice A1 z1.length k1] 41)
  have hX := (FBx.new w 41 r0 s0 A0 z0.length k0).below (bl_alloc (Below.refl _ _) (.cells #[.int .i64 r1, .int .i64 s1, .slice A1 z1.length k1] 41))
  have hY := FBx.new (w.alloc (.cells #[.int .i64 r0, .int .i64 s0, .slice A0 z0.length k0] 41)) 41 r1 s1 A1 z1.length k1
  rw [show (w.alloc (.cells #[.int .i64 r0, .int .i64 s0, .slice A0 z0.length k0] 41)).heap.size = w.heap.size + 1 from by simp] at hY
  have HR0 := Lib.hid (hr0.below hbB)
  have HR1 := Lib.hid (hr1.below hbB)
  clear hr0 hr1
  by_cases hg0 : 1048576 < z0.length
  · have HB := Lib.hid hbB
    have HX := Lib.hid hX
    have d1 : decide ((-1 : Int) < 0) = true := by decide
    clear hbB hX hY
    go_enter Try.func12, Try.ntmps12
    go_wp2_with (go_at_call 34; refine (szField_no _ _ _ _ _ _ _ (by omega) (by omega) (by omega) hm0).mono ?_; rintro e w1 ⟨rfl, hb1⟩)
    go_ret
    exact ⟨rfl, bl_trans HB.out hb1⟩
  have HX := Lib.hid hX
  have HY := Lib.hid hY
  have HBB := Lib.hid hbB
  clear hX hY hbB
  by_cases hg1 : 1048576 < z0.length + z1.length
  · have d1 : decide ((1048576 : Int) - (z0.length : Int) < 0) = false := decide_eq_false (by omega)
    go_enter Try.func12, Try.ntmps12
    go_wp2_with fail
    generalize (w.alloc (.cells #[.int .i64 r0, .int .i64 s0, .slice A0 z0.length k0] 41)).alloc (.cells #[.int .i64 r1, .int .i64 s1, .slice A1 z1.length k1] 41) = W0 at *
    refine (szField_yes _ _ _ _ _ _ _ (by omega) (by omega)).mono ?_
    rintro e w1 ⟨rfl, hb1⟩
    obtain ⟨y0, y1, y2⟩ := HY.out.below hb1
    go_wp2_with fail
    refine (szField_no _ _ _ _ _ _ _ (by omega) (by omega) (by omega) hm1).mono ?_
    rintro e w2 ⟨rfl, hb2⟩
    go_wp2_with fail
    go_ret
    exact ⟨rfl, bl_trans (bl_trans HBB.out hb1) hb2⟩
  have d1 : decide ((1048576 : Int) - (z0.length : Int) < 0) = false := decide_eq_false (by omega)
  have d2 : decide ((1048576 : Int) - (z0.length : Int) - (z1.length : Int) < 0) = false := decide_eq_false (by omega)
  have l0 : z0.length ≤ 1048576 := by omega
  have l1 : z1.length ≤ 1048576 := by omega
  clear hm0 hm1
  go_enter Try.func12, Try.ntmps12
  go_wp2_with fail
  generalize (w.alloc (.cells #[.int .i64 r0, .int .i64 s0, .slice A0 z0.length k0] 41)).alloc (.cells #[.int .i64 r1, .int .i64 s1, .slice A1 z1.length k1] 41) = W0 at *
  refine (szField_yes _ _ _ _ _ _ _ (by omega) (by omega)).mono ?_
  rintro e w1 ⟨rfl, hb1⟩
  have HX1 := Lib.hid (HX.out.below hb1)
  have HY1 := Lib.hid (HY.out.below hb1)
  obtain ⟨y0, y1, y2⟩ := HY1.out
  go_wp2_with fail
  clear y0 y1 y2
  refine (szField_yes _ _ _ _ _ _ _ (by omega) (by omega)).mono ?_
  rintro e w2 ⟨rfl, hb2⟩
  have HX2 := Lib.hid (HX1.out.below hb2)
  have HY2 := Lib.hid (HY1.out.below hb2)
  have HB2 := Lib.hid (bl_trans (bl_trans HBB.out hb1) hb2)
  have HR02 := Lib.hid ((HR0.out.below hb1).below hb2)
  have HR12 := Lib.hid ((HR1.out.below hb1).below hb2)
  clear hb1 hb2 HX HY HX1 HY1 HBB HR0 HR1
  have hpl := HX2.out.lt
  have hql := HY2.out.lt
  go_upto_region 8 with fail
  go_cut [6] (fun s6 wx => s6 = .bool (sameFd r0 s0 z0 r1 s1 z1) ∧ Below w2.heap.size w2 wx)
  case first =>
    obtain ⟨x0, x1, x2⟩ := HX2.out.fb
    obtain ⟨y0, y1, y2⟩ := HY2.out.fb
    go_region_held3 (fun w' => w'.cell? ⟨w.heap.size, 0, none⟩ = some (.int .i64 r0) ∧ w'.cell? ⟨w.heap.size, 1, none⟩ = some (.int .i64 s0) ∧ w'.cell? ⟨w.heap.size, 2, none⟩ = some (.slice A0 z0.length k0) ∧ w'.cell? ⟨w.heap.size + 1, 0, none⟩ = some (.int .i64 r1) ∧ w'.cell? ⟨w.heap.size + 1, 1, none⟩ = some (.int .i64 s1) ∧ w'.cell? ⟨w.heap.size + 1, 2, none⟩ = some (.slice A1 z1.length k1) ∧ Below w2.heap.size w2 w')
      (first | exact F6_step hpl hql (by assumption) (by assumption) | (refine ⟨?_, ?_, ?_, ?_, ?_, ?_, ?_⟩ <;> first | assumption | exact (Below.refl _ _).drew | exact Below.refl _ _ | go_keep) | go_keep)
      (first
        | (go_at_call 36; (with_reducible refine (toField_any r0 s0 A0 k0 z0 _ ?_ l0).mono ?_); (first | exact HR02.out.drewN 1 | exact HR02.out.below (F6_bl (by assumption))); rintro e wa ⟨ga, rfl, hga, hoa, hba⟩)
        | (go_at_call 36; (with_reducible refine (toField_any r1 s1 A1 k1 z1 _ ?_ l1).mono ?_); (first | exact HR12.out.drewN 1 | exact HR12.out.below (F6_bl (by assumption))); rintro e wb ⟨gb, rfl, hgb, hob, hbb⟩)
        | (go_at_call 35; (with_reducible refine (specSameF_any r0 s0 r1 s1 _ _ _ _ z0 z1 _ ?_ ?_ l0 l1).mono ?_); (first | exact hoa.rd | exact (hoa.below hbb).rd); (first | exact hob.rd | exact (hob.below hba).rd); rintro e wc ⟨rfl, hbc⟩))
    all_goals
      go_wp2_with fail
      go_meet
      exact ⟨rfl, F6_bl (by assumption)⟩
  case rest =>
    obtain ⟨rfl, hb6⟩ := hcut
    have HX6 := Lib.hid (HX2.out.below hb6)
    have HY6 := Lib.hid (HY2.out.below hb6)
    have HB6 := Lib.hid (bl_trans HB2.out hb6)
    have HR06 := Lib.hid (HR02.out.below hb6)
    have HR16 := Lib.hid (HR12.out.below hb6)
    clear hb6 hpl hql HX2 HY2 HB2 HR02 HR12
    obtain ⟨x0, x1, x2⟩ := HX6.out.fb
    go_wp2_with fail
    clear x0 x1 x2
    refine (toField_any r0 s0 A0 k0 z0 _ HR06.out l0).mono ?_
    rintro e w3 ⟨g3, rfl, hg3, ho3, hb3⟩
    have hb3a := bl_alloc hb3 (.cells #[.int .i64 r0, .int .i64 s0, .slice (some ⟨g3, 0, none⟩) z0.length z0.length] 44)
    have HX3 := Lib.hid (HX6.out.below hb3a)
    have HY3 := Lib.hid (HY6.out.below hb3a)
    have HB3 := Lib.hid (bl_trans HB6.out hb3a)
    have HR03 := Lib.hid (HR06.out.below hb3a)
    have HR13 := Lib.hid (HR16.out.below hb3a)
    have HO3 := Lib.hid (ho3.below (bl_alloc (Below.refl _ _) (.cells #[.int .i64 r0, .int .i64 s0, .slice (some ⟨g3, 0, none⟩) z0.length z0.length] 44)))
    have HP3 := Lib.hid (FBx.new w3 44 r0 s0 (some ⟨g3, 0, none⟩) z0.length z0.length)
    obtain ⟨y0, y1, y2⟩ := (HY6.out.below hb3).fb
    have hq3 := (HY6.out.below hb3).lt
    clear hb3a hb3 ho3 HX6 HY6 HB6 HR06 HR16
    go_wp2_with fail
    clear y0 y1 y2
    generalize w3.alloc (.cells #[.int .i64 r0, .int .i64 s0, .slice (some ⟨g3, 0, none⟩) z0.length z0.length] 44) = w3a at *
    obtain ⟨p7, hp7⟩ : ∃ p7, p7 = w3.heap.size := ⟨_, rfl⟩
    rw [← hp7] at HP3
    rw [← hp7]
    have HP7 := Lib.hid hp7
    clear hp7
    refine (toField_any r1 s1 A1 k1 z1 _ HR13.out l1).mono ?_
    rintro e w4 ⟨g4, rfl, hg4, ho4, hb4⟩
    have hb4a := bl_alloc hb4 (.cells #[.int .i64 r1, .int .i64 s1, .slice (some ⟨g4, 0, none⟩) z1.length z1.length] 44)
    have HX4 := Lib.hid (HX3.out.below hb4a)
    have HY4 := Lib.hid (HY3.out.below hb4a)
    have HB4 := Lib.hid (bl_trans HB3.out hb4a)
    have HR04 := Lib.hid (HR03.out.below hb4a)
    have HR14 := Lib.hid (HR13.out.below hb4a)
    have HO34 := Lib.hid (HO3.out.below hb4a)
    have HO4 := Lib.hid (ho4.below (bl_alloc (Below.refl _ _) (.cells #[.int .i64 r1, .int .i64 s1, .slice (some ⟨g4, 0, none⟩) z1.length z1.length] 44)))
    have HP4 := Lib.hid (HP3.out.below hb4a)
    have HQ4 := Lib.hid (FBx.new w4 44 r1 s1 (some ⟨g4, 0, none⟩) z1.length z1.length)
    obtain ⟨y0, y1, y2⟩ := (HP3.out.below hb4).fb
    have hq4 := (HP3.out.below hb4).lt
    clear hb4a hb4 ho4 HX3 HY3 HB3 HR03 HR13 HO3 HP3 hq3
    go_wp2_with fail
    clear y0 y1 y2
    generalize w4.alloc (.cells #[.int .i64 r1, .int .i64 s1, .slice (some ⟨g4, 0, none⟩) z1.length z1.length] 44) = w4a at *
    obtain ⟨p8, hp8⟩ : ∃ p8, p8 = w4.heap.size := ⟨_, rfl⟩
    rw [← hp8] at HQ4
    rw [← hp8]
    have HP8 := Lib.hid hp8
    clear hp8 hq4
    refine (implSameF_any r0 s0 r1 s1 _ _ _ _ z0 z1 _ HO34.out.rd HO4.out.rd l0 l1).mono ?_
    rintro e w5 ⟨rfl, hb5⟩
    have HX5 := Lib.hid (HX4.out.below hb5)
    have HY5 := Lib.hid (HY4.out.below hb5)
    have HB5 := Lib.hid (bl_trans HB4.out hb5)
    have HR05 := Lib.hid (HR04.out.below hb5)
    have HR15 := Lib.hid (HR14.out.below hb5)
    have HO35 := Lib.hid (HO34.out.below hb5)
    have HO5 := Lib.hid (HO4.out.below hb5)
    have HP5 := Lib.hid (HP4.out.below hb5)
    have HQ5 := Lib.hid (HQ4.out.below hb5)
    clear hb5 HX4 HY4 HB4 HR04 HR14 HO34 HO4 HP4 HQ4
    have hp := HP5.out.lt
    have hx := HX5.out.lt
    go_upto_region 14 with fail
    go_cut [39] (fun s39 wx => s39 = .bool false ∧ Below w5.heap.size w5 wx)
    case first =>
      obtain ⟨x0, x1, x2⟩ := HP5.out.fb
      obtain ⟨y0, y1, y2⟩ := HX5.out.fb
      go_region_held3 (fun w' => w'.cell? ⟨p7, 0, none⟩ = some (.int .i64 r0) ∧ w'.cell? ⟨p7, 1, none⟩ = some (.int .i64 s0) ∧ w'.cell? ⟨p7, 2, none⟩ = some (.slice (some ⟨g3, 0, none⟩) z0.length z0.length) ∧ w'.cell? ⟨w.heap.size, 0, none⟩ = some (.int .i64 r0) ∧ w'.cell? ⟨w.heap.size, 1, none⟩ = some (.int .i64 s0) ∧ w'.cell? ⟨w.heap.size, 2, none⟩ = some (.slice A0 z0.length k0) ∧ Below w5.heap.size w5 w')
        (first | exact F6_step hp hx (by assumption) (by assumption) | (refine ⟨?_, ?_, ?_, ?_, ?_, ?_, ?_⟩ <;> first | assumption | exact (Below.refl _ _).drew | exact Below.refl _ _ | go_keep) | go_keep)
        (first
          | (go_at_call 36; (with_reducible refine (toField_any r0 s0 A0 k0 z0 _ ?_ l0).mono ?_); (first | exact HR05.out.drewN 1 | exact HR05.out.below (F6_bl (by assumption))); rintro e wa ⟨ga, rfl, hga, hoa, hba⟩)
          | (go_at_call 38; (with_reducible refine (eqField_same r0 s0 _ _ _ _ z0 _ ?_ ?_ l0).mono ?_); (exact (HO35.out.below (F6_bl (by assumption))).rd); (exact hoa.rd); rintro e wd ⟨rfl, hbd⟩))
      all_goals
        go_wp2_with fail
        go_meet
        exact ⟨rfl, F6_bl (by assumption)⟩
    case rest =>
      obtain ⟨rfl, hb7⟩ := hcut
      have HY7 := Lib.hid (HY5.out.below hb7)
      have HB7 := Lib.hid (bl_trans HB5.out hb7)
      have HR17 := Lib.hid (HR15.out.below hb7)
      have HO7 := Lib.hid (HO5.out.below hb7)
      have HQ7 := Lib.hid (HQ5.out.below hb7)
      clear hb7 HX5 HY5 HB5 HR05 HR15 HO35 HO5 HP5 HQ5 hp hx
      have hp := HQ7.out.lt
      have hx := HY7.out.lt
      go_upto_region 16 with fail
      go_cut [44] (fun s39 wx => s39 = .bool false ∧ Below wc.heap.size wc wx)
      case first =>
        obtain ⟨x0, x1, x2⟩ := HQ7.out.fb
        obtain ⟨y0, y1, y2⟩ := HY7.out.fb
        go_region_held3 (fun w' => w'.cell? ⟨p8, 0, none⟩ = some (.int .i64 r1) ∧ w'.cell? ⟨p8, 1, none⟩ = some (.int .i64 s1) ∧ w'.cell? ⟨p8, 2, none⟩ = some (.slice (some ⟨g4, 0, none⟩) z1.length z1.length) ∧ w'.cell? ⟨w.heap.size + 1, 0, none⟩ = some (.int .i64 r1) ∧ w'.cell? ⟨w.heap.size + 1, 1, none⟩ = some (.int .i64 s1) ∧ w'.cell? ⟨w.heap.size + 1, 2, none⟩ = some (.slice A1 z1.length k1) ∧ Below wc.heap.size wc w')
          (first | exact F6_step hp hx (by assumption) (by assumption) | (refine ⟨?_, ?_, ?_, ?_, ?_, ?_, ?_⟩ <;> first | assumption | exact (Below.refl _ _).drew | exact Below.refl _ _ | go_keep) | go_keep)
          (first
            | (go_at_call 36; (with_reducible refine (toField_any r1 s1 A1 k1 z1 _ ?_ l1).mono ?_); (first | exact HR17.out.drewN 1 | exact HR17.out.below (F6_bl (by assumption))); rintro e wa ⟨ga, rfl, hga, hoa, hba⟩)
            | (go_at_call 38; (with_reducible refine (eqField_same r1 s1 _ _ _ _ z1 _ ?_ ?_ l1).mono ?_); (exact (HO7.out.below (F6_bl (by assumption))).rd); (exact hoa.rd); rintro e wd ⟨rfl, hbd⟩))
        all_goals
          go_wp2_with fail
          go_meet
          exact ⟨rfl, F6_bl (by assumption)⟩
      case rest =>
        obtain ⟨rfl, hb8⟩ := hcut
        go_wp2_with fail
        go_ret
        exact ⟨rfl, bl_trans HB7.out hb8⟩
theorem own : ownKnob Try.prog.godebug = none := by kernel_rfl
theorem laidOut : laidOutB Try.prog = true := by kernel_rfl
set_option maxRecDepth 100000 in
theorem lifted (os : Os) (started : os.Started) (H : Type) (enc : TypeId × Value → H) :
    ReturnsInHanded {} Try.checked os 12 .any (Rows.fnExactSameFieldSpec.pre6 enc Try.prog Try.f12 Rows.fnExactSameFieldRow.domain false) (Rows.fnExactSameFieldSpec.post enc Try.prog Try.f12 false true false false) := by
  refine returnsInHanded_of_change (C := Try.checked) own started (by kernel_rfl) Try.func12
    (ChangeSpec.witness6 (enc := enc) (C := Try.checked) false ⟨#[], #[.agg #[.int .i64 0, .int .i64 0, .slice none 0 0], .agg #[.int .i64 0, .int .i64 0, .slice none 0 0]], []⟩ 8 (by kernel_rfl) (by kernel_rfl) (by kernel_rfl) (by kernel_rfl)) ?_
  intro W base args ds gs before hval0 hW hcnd _
  have hval : ∀ (j : Nat) t v, Try.f12.params[j]? = some t → args[j]? = some v → Value.okWide Try.prog W .any base t v := hval0
  have hW' := hW
  obtain ⟨p, q, hA0, hV, rfl, hfz, hnd⟩ := hW
  have hA : DataW.TrodAll enc Try.prog W 0 (fun _ => true) true Try.f12.params.toList args.toList ds p := hA0
  rw [Try.params12] at hA hval
  obtain ⟨v0, vs0, d0, ds0, p0, q0, hargs, rfl, rfl, h0, r0⟩ := trodAll_cons hA
  obtain ⟨v1, vs1, d1, ds1, p1, q1, rfl, rfl, rfl, h1, r1⟩ := trodAll_cons r0
  obtain ⟨rfl, rfl, rfl⟩ := trodAll_nil r1
  obtain rfl : args = #[v0, v1] := by cases args; simp_all
  obtain ⟨rfl, rfl⟩ := trodVars_none hV
  have k0 := h0
  have lt0 : ∀ x ∈ p0, x.block < W.heap.size := by obtain ⟨m, hm⟩ := k0; exact DataW.trod_lt m _ _ _ hm
  obtain ⟨r0a, c0a, a0, len0, cap0, z0, rfl, w0⟩ := open_field (hval 0 41 v0 rfl rfl) h0
  have k1 := h1
  have lt1 : ∀ x ∈ p1, x.block < W.heap.size := by obtain ⟨m, hm⟩ := k1; exact DataW.trod_lt m _ _ _ hm
  obtain ⟨r1a, c1a, a1, len1, cap1, z1, rfl, w1⟩ := open_field (hval 1 41 v1 rfl rfl) h1
  clear hA0 hval0
  refine (walk W r0a c0a a0 len0 cap0 z0 w0 r1a c1a a1 len1 cap1 z1 w1).mono fun e W' ⟨he, bel⟩ => ?_
  subst he
  exact ⟨_, rfl, _, _, _, [], _, [], hW', trodAll_mk1 (shut_bool Try.underlying4 _), (trodAll_cons_mk (Below.trod laidOut (by kernel_rfl) (of_decide_eq_true (by kernel_rfl)) k0 bel lt0) (trodAll_cons_mk (Below.trod laidOut (by kernel_rfl) (of_decide_eq_true (by kernel_rfl)) k1 bel lt1) trodAll_mk0)), rfl, bel.frame _, fun h => by cases h⟩
theorem over : Rows.fnExactSameFieldRow.holds Try.pinned (OpenSpec.ofChange Rows.fnExactSameFieldSpec) :=
  OpenClaim.holds_of_wide 12 Try.f12 rfl rfl rfl rfl rfl rfl rfl ⟨rfl, rfl, rfl, rfl, rfl⟩ rfl rfl rfl rfl rfl (by kernel_rfl) Try.func12 (by kernel_rfl)
    (of_decide_eq_true (by kernel_rfl)) (by unfold Func.isWrapper; first | (rw [if_pos (by decide +kernel)]; kernel_rfl) | (rw [if_neg (by decide +kernel)]; exact ⟨rfl, rfl⟩))
    (fun os started H enc _ => lifted os started H enc)
theorem proved : Rows.FnExactSameFieldSaid := over
#print axioms proved
end Go.Proofs.Ytnkmcejaemcfeaa.fnExactSameField
