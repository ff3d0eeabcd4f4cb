/- The law FnExactFieldText holds: the program's FieldText returns what the reference's returns, for all fields, where the library's tables read as the program's text lays them (tied by the card). -/
import Derived.Test.YtcpdipopajhajaaDoorFldT
import Derived.Test.YtcpdipopajhajaaDoorFldBx
import Derived.Deep.DeepCutAuto
namespace Go.Proofs.YtcpdipopajhajaaDoor.fnExactFieldText
open Go.ChangeShapes Go.WideShapes Go.ChangeAt Go.RowKit Go.Deep Go.Joins
open Go.ChangeMaps (open_string shut_string)
set_option linter.unusedVariables false
set_option maxRecDepth 100000 in
set_option maxHeartbeats 8000000 in
theorem walk (w : World) (r0 s0 : Int) (A0 : Option Addr) (n0 k0 : Nat) (z0 : List Int) (h0 : FieldIn w r0 s0 A0 n0 k0 z0) (ht : TabOk w) :
    Calls Tryd.prog 4 #[.agg #[.int .i64 r0, .int .i64 s0, .slice A0 n0 k0]] w fun e w' => e = .returned (.bool true) ∧ Below w.heap.size w w' := by
  obtain ⟨rfl, hm0, hr0, _, _, _⟩ := h0
  have HT := Lib.hid ht
  clear ht
  have hbB := bl_alloc (Below.refl w.heap.size w) (.cells #[.int .i64 r0, .int .i64 s0, .slice A0 z0.length k0] 29)
  have hX := FBx.new w 29 r0 s0 A0 z0.length k0
  have HR0 := Lib.hid (hr0.below hbB)
  have HX := Lib.hid hX
  have HBB := Lib.hid hbB
  clear hr0 hX hbB
  by_cases hg0 : 1048576 < z0.length
  · have d1 : decide ((-1 : Int) < 0) = true := by decide
    go_enter Tryd.func4, Tryd.ntmps4
    go_wp2_with (go_at_call 13; refine (szField_no _ _ _ _ _ _ _ (by omega) (by omega) (by omega) hm0).mono ?_; rintro e w1 ⟨rfl, hb1⟩)
    go_ret
    exact ⟨rfl, bl_trans HBB.out hb1⟩
  have d1 : decide ((1048576 : Int) - (z0.length : Int) < 0) = false := decide_eq_false (by omega)
  have l0 : z0.length ≤ 1048576 := by omega
  clear hm0
  go_enter Tryd.func4, Tryd.ntmps4
  go_wp2_with fail
  generalize w.alloc (.cells #[.int .i64 r0, .int .i64 s0, .slice A0 z0.length k0] 29) = W0 at *
  refine (szField_yes _ _ _ _ _ _ _ (by omega) (by omega)).mono ?_
  rintro e w1 ⟨rfl, hb1⟩
  have HX1 := Lib.hid (HX.out.below hb1)
  have HR1 := Lib.hid (HR0.out.below hb1)
  have HB1 := Lib.hid (bl_trans HBB.out hb1)
  obtain ⟨y0, y1, y2⟩ := HX1.out.fb
  clear hb1 HX HR0 HBB
  go_wp2_with fail
  clear y0 y1 y2
  refine (toField_any r0 s0 A0 k0 z0 _ HR1.out l0).mono ?_
  rintro e w2 ⟨g2, rfl, hg2, ho2, hb2⟩
  have HX2 := Lib.hid (HX1.out.below hb2)
  have HR2 := Lib.hid (HR1.out.below hb2)
  have HB2 := Lib.hid (bl_trans HB1.out hb2)
  clear hb2 HX1 HR1 HB1
  go_wp2_with fail
  refine (specFldT_any r0 s0 _ _ z0 _ ho2.rd l0).mono ?_
  rintro e w3 ⟨rfl, hb3⟩
  have HX3 := Lib.hid (HX2.out.below hb3)
  have HR3 := Lib.hid (HR2.out.below hb3)
  have HB3 := Lib.hid (bl_trans HB2.out hb3)
  clear hb3 HX2 HR2 HB2 ho2 hg2
  obtain ⟨y0, y1, y2⟩ := HX3.out.fb
  go_wp2_with fail
  clear y0 y1 y2
  refine (toField_any r0 s0 A0 k0 z0 _ HR3.out l0).mono ?_
  rintro e w4 ⟨g4, rfl, hg4, ho4, hb4⟩
  have hb4a := bl_alloc hb4 (.cells #[.int .i64 r0, .int .i64 s0, .slice (some ⟨g4, 0, none⟩) z0.length z0.length] 32)
  have HX4 := Lib.hid (HX3.out.below hb4a)
  have HB4 := Lib.hid (bl_trans HB3.out hb4a)
  have HR4 := Lib.hid (HR3.out.below hb4a)
  have HO4 := Lib.hid (ho4.below (bl_alloc (Below.refl _ _) (.cells #[.int .i64 r0, .int .i64 s0, .slice (some ⟨g4, 0, none⟩) z0.length z0.length] 32)))
  have HP4 := Lib.hid (FBx.new w4 32 r0 s0 (some ⟨g4, 0, none⟩) z0.length z0.length)
  clear hb4a hb4 ho4 HX3 HB3 HR3
  go_wp2_with fail
  generalize w4.alloc (.cells #[.int .i64 r0, .int .i64 s0, .slice (some ⟨g4, 0, none⟩) z0.length z0.length] 32) = w4a at *
  obtain ⟨p4, hp4⟩ : ∃ p4, p4 = w4.heap.size := ⟨_, rfl⟩
  rw [← hp4] at HP4
  rw [← hp4]
  have HPE := Lib.hid hp4
  clear hp4
  refine (implFldT_any r0 s0 _ _ z0 _ HO4.out.rd l0 (HT.out.on HB4.out)).mono ?_
  rintro e w5 ⟨rfl, hb5⟩
  have HX5 := Lib.hid (HX4.out.below hb5)
  have HB5 := Lib.hid (bl_trans HB4.out hb5)
  have HR5 := Lib.hid (HR4.out.below hb5)
  have HO5 := Lib.hid (HO4.out.below hb5)
  have HP5 := Lib.hid (HP4.out.below hb5)
  clear hb5 HX4 HB4 HR4 HO4 HP4
  have hp := HP5.out.lt
  have hx := HX5.out.lt
  go_upto_region 10 with fail
  go_cut [26] (fun s39 wx => s39 = .bool false ∧ Below w5.heap.size w5 wx)
  case first =>
    obtain ⟨x0, x1, x2⟩ := HP5.out.fb
    obtain ⟨y0, y1, y2⟩ := HX5.out.fb
    go_region_held3 (fun w' => w'.cell? ⟨p4, 0, none⟩ = some (.int .i64 r0) ∧ w'.cell? ⟨p4, 1, none⟩ = some (.int .i64 s0) ∧ w'.cell? ⟨p4, 2, none⟩ = some (.slice (some ⟨g4, 0, none⟩) z0.length z0.length) ∧ w'.cell? ⟨w.heap.size, 0, none⟩ = some (.int .i64 r0) ∧ w'.cell? ⟨w.heap.size, 1, none⟩ = some (.int .i64 s0) ∧ w'.cell? ⟨w.heap.size, 2, none⟩ = some (.slice A0 z0.length k0) ∧ Below w5.heap.size w5 w')
      (first | exact F6_step hp hx (by assumption) (by assumption) | (refine ⟨?_, ?_, ?_, ?_, ?_, ?_, ?_⟩ <;> first | assumption | exact (Below.refl _ _).drew | exact Below.refl _ _ | go_keep) | go_keep)
      (first
        | (go_at_call 15; (with_reducible refine (toField_any r0 s0 A0 k0 z0 _ ?_ l0).mono ?_); (first | exact HR5.out.drewN 1 | exact HR5.out.below (F6_bl (by assumption))); rintro e wa ⟨ga, rfl, hga, hoa, hba⟩)
        | (go_at_call 17; (with_reducible refine (eqField_same r0 s0 _ _ _ _ z0 _ ?_ ?_ l0).mono ?_); (exact (HO5.out.below (F6_bl (by assumption))).rd); (exact hoa.rd); rintro e wd ⟨rfl, hbd⟩))
    all_goals
      go_wp2_with fail
      go_meet
      exact ⟨rfl, F6_bl (by assumption)⟩
  case rest =>
    obtain ⟨rfl, hb7⟩ := hcut
    go_wp2_with fail
    go_ret
    exact ⟨rfl, bl_trans HB5.out hb7⟩
theorem own : ownKnob Tryd.prog.godebug = none := by kernel_rfl
theorem laidOut : laidOutB Tryd.prog = true := by kernel_rfl
theorem door_met (os : Os) (args : Array Value) : laidMetH Tryd.prog Rows.fnExactFieldTextRow.laid ((World.doorLaid Tryd.prog 400 os).forCall (fun _ _ => 0) ⟨#[], args, []⟩).memory :=
  laidMetH_of_parts3 (fuel := 8) (laidMet_of_run' 8 (by kernel_rfl) (by kernel_rfl)) (by kernel_rfl) (by kernel_rfl)
set_option maxRecDepth 100000 in
theorem lifted (os : Os) (started : os.Started) (H : Type) (enc : TypeId × Value → H) :
    ReturnsInHanded {} Tryd.checked os 4 .any (fun w args => (Rows.fnExactFieldTextSpec.pre enc Tryd.prog Tryd.f4 Rows.fnExactFieldTextRow.domain false w args ∧ laidMetH Tryd.prog Rows.fnExactFieldTextRow.laid w) ∧ sizedMet enc Tryd.prog Tryd.f4 (OpenSpec.ofChange Rows.fnExactFieldTextSpec) false w args)
      (Rows.fnExactFieldTextSpec.post enc Tryd.prog Tryd.f4 false true false false) := by
  refine returnsInHanded_of_change_laid (C := Tryd.checked) (X := fun w _ => laidMetH Tryd.prog Rows.fnExactFieldTextRow.laid w) (fun _ _ _ hh h => h.of_heap hh) own started (by kernel_rfl) Tryd.func4
    (ChangeSpec.witness_shaped (enc := enc) (C := Tryd.checked) (os := os) (X := fun w _ => laidMetH Tryd.prog Rows.fnExactFieldTextRow.laid w) false (World.doorLaid Tryd.prog 400 os) #[.agg #[.int .i64 0, .int .i64 0, .slice none 0 0]] 8 rfl (World.shaped_of_RefB (by kernel_rfl) (by kernel_rfl)) (by kernel_rfl) (by kernel_rfl) (by kernel_rfl) (door_met os _)) ?_
  intro W base args ds gs before hval0 hW hcnd hL0 hsh _
  have hM0 : laidMet Tryd.prog Rows.fnExactFieldTextRow.laid W := by rw [← MakeChecks.laidMetH_plain _ _ _ (by kernel_rfl)]; exact hL0
  have hM1 := hM0.tail
  have hM2 := hM1.tail
  have hM3 := hM2.tail
  have hTab := tab_of_met hM2
  have hval : ∀ (j : Nat) t v, Tryd.f4.params[j]? = some t → args[j]? = some v → Value.okWide Tryd.prog W .any base t v := hval0
  have hW' := hW
  obtain ⟨p, q, hA0, hV, rfl, hfz, hnd⟩ := hW
  have hA : DataW.TrodAll enc Tryd.prog W 0 (fun _ => true) true Tryd.f4.params.toList args.toList ds p := hA0
  rw [Tryd.params4] at hA hval
  obtain ⟨v0, vs0, d0, ds0, p0, q0, hargs, rfl, rfl, h0, r0⟩ := trodAll_cons hA
  obtain ⟨rfl, rfl, rfl⟩ := trodAll_nil r0
  obtain rfl : args = #[v0] := by cases args; simp_all
  obtain ⟨rfl, rfl⟩ := trodVars_none hV
  have k0 := h0
  have lt0 : ∀ x ∈ p0, x.block < W.heap.size := by obtain ⟨m, hm⟩ := k0; exact DataW.trod_lt m _ _ _ hm
  obtain ⟨r0a, c0a, a0, len0, cap0, z0, rfl, w0⟩ := open_field (hval 0 29 v0 rfl rfl) h0
  clear hA0 hval0
  refine (walk W r0a c0a a0 len0 cap0 z0 w0 hTab).mono fun e W' ⟨he, bel⟩ => ?_
  subst he
  exact ⟨_, rfl, _, _, _, [], _, [], hW', trodAll_mk1 (shut_bool Tryd.underlying4 _), (trodAll_cons_mk (Below.trod laidOut (by kernel_rfl) (of_decide_eq_true (by kernel_rfl)) k0 bel lt0) trodAll_mk0), rfl, bel.frame _, fun h => by cases h⟩
theorem over : Rows.fnExactFieldTextRow.holds Tryd.pinned (OpenSpec.ofChange Rows.fnExactFieldTextSpec) :=
  OpenClaim.holds_of_wide 4 Tryd.f4 rfl rfl rfl rfl rfl rfl rfl ⟨rfl, rfl, rfl, rfl, rfl⟩ rfl rfl rfl rfl rfl (by kernel_rfl) Tryd.func4 (by kernel_rfl)
    (of_decide_eq_true (by kernel_rfl)) (by unfold Func.isWrapper; first | (rw [if_pos (by decide +kernel)]; kernel_rfl) | (rw [if_neg (by decide +kernel)]; exact ⟨rfl, rfl⟩))
    (fun os started H enc _ => lifted os started H enc)
theorem proved : Rows.FnExactFieldTextCardSaid :=
  Claim7.holds_tied_plain_at .later [] [.data, .data, .data] true (true, "4fde6f701146cc107cf5e0b035f369005703b919a42dc59aed7912143d24d3cd") true
    over (fun _ h => by cases h) (by kernel_rfl) (fun _ h => by cases h) fnExactFieldText_row_tie rfl ⟨rfl, rfl⟩ (by kernel_rfl) rfl
    (fun f fn hf hfn => by
      obtain rfl : f = 4 := Option.some.inj ((show Tryd.prog.funcNamed "loop.example/g01013/laws.FnExactFieldText" = some 4 by kernel_rfl).symm.trans hf) |>.symm
      obtain rfl : fn = Tryd.f4 := (Option.some.inj (Tryd.func4.symm.trans hfn)).symm
      exact ⟨by kernel_rfl, fun j t ht => by
        rw [Tryd.params4] at ht
        have hm : t ∈ [29] := by simpa using Array.mem_of_getElem? ht
        have hall : ([29].all fun u => !Tryd.prog.wantsStandIn u) = true := by kernel_rfl
        exact (show Tryd.prog.wantsStandIn t = false by simpa using List.all_eq_true.1 hall t hm)⟩)
    (by kernel_rfl)
#print axioms proved
end Go.Proofs.YtcpdipopajhajaaDoor.fnExactFieldText
