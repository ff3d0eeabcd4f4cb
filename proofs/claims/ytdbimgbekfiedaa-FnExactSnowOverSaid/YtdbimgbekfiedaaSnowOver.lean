/- The law FnExactSnowOver holds: the program's SnowOver returns what the reference's returns, in memory of its own, for all fields and all int64. No condition. -/
import Derived.Test.YtdbimgbekfiedaaOver
import Derived.Deep.DeepCutAuto
namespace Go.Proofs.Ytdbimgbekfiedaa.fnExactSnowOver
open Go.ChangeShapes Go.WideShapes Go.ChangeAt Go.RowKit Go.Deep Go.Joins
open Go.ChangeMaps (open_string shut_string)
set_option linter.unusedVariables false
theorem own_keep {w w' : World} {B g : Nat} {A : Option Addr} {ns ms : List Int} (h : OwnIO w B A ns) (hk : KeepsBut (some ⟨g, 0, none⟩) ms w w') (hg : g < B) : OwnIO w' B A ns := by
  rcases h with rfl | ⟨g', rfl, hB, h⟩
  · exact .inl rfl
  · exact .inr ⟨g', rfl, hB, h.of_block (hk g' h.lt (fun _ q o e => by injection e with e; injection e with e _; omega))⟩
set_option maxRecDepth 100000 in
set_option maxHeartbeats 8000000 in
theorem walk (w : World) (r0 s0 : Int) (A0 : Option Addr) (n0 k0 : Nat) (z0 : List Int) (h0 : FieldIn w r0 s0 A0 n0 k0 z0) (a1 : Int) (w1 : (Lit.int .i64 a1).wf = true) :
    Calls Try.prog 3 #[.agg #[.int .i64 r0, .int .i64 s0, .slice A0 n0 k0], .int .i64 a1] w fun e w' => e = .returned (.bool true) ∧ Below w.heap.size w w' := by
  obtain ⟨rfl, hm0, hr0, _, _, _⟩ := h0
  have hbB := bl_alloc (Below.refl w.heap.size w) (.cells #[.int .i64 r0, .int .i64 s0, .slice A0 z0.length k0] 24)
  have hX := FBx.new w 24 r0 s0 A0 z0.length k0
  have HR0 := Lib.hid (hr0.below hbB)
  have HX := Lib.hid hX
  have HBB := Lib.hid hbB
  clear hr0 hX hbB w1
  by_cases hg0 : 1048576 < z0.length
  · have d1 : decide ((-1 : Int) < 0) = true := by decide
    go_enter Try.func3, Try.ntmps3
    go_wp2_with (go_at_call 4; refine (szField_no _ _ _ _ _ _ _ (by omega) (by omega) (by omega) hm0).mono ?_; rintro e w1 ⟨rfl, hb1⟩)
    go_ret
    exact ⟨rfl, bl_trans HBB.out hb1⟩
  have d1 : decide ((1048576 : Int) - (z0.length : Int) < 0) = false := decide_eq_false (by omega)
  have l0 : z0.length ≤ 1048576 := by omega
  have lV := overV_len r0 s0 z0 a1 l0
  have HS : Hid (∀ (W : World) (A : Option Addr) (c : Nat), RdI W A z0 → Calls Try.prog 5 #[.agg #[.int .i64 r0, .int .i64 s0, .slice A z0.length c], .int .i64 a1] W (GivesFC W (overR r0 s0 z0 a1) (overS r0 s0 z0 a1) (overV r0 s0 z0 a1) (overC r0 s0 z0 a1))) := Lib.hid fun W A c h => specOver_any r0 s0 a1 A c z0 W h l0
  have HI : Hid (∀ (W : World) (A : Option Addr) (c : Nat), RdI W A z0 → Calls Try.prog 7 #[.agg #[.int .i64 r0, .int .i64 s0, .slice A z0.length c], .int .i64 a1] W (GivesFC W (overR r0 s0 z0 a1) (overS r0 s0 z0 a1) (overV r0 s0 z0 a1) (overC r0 s0 z0 a1))) := Lib.hid fun W A c h => implOver_any r0 s0 a1 A c z0 W h l0
  generalize overR r0 s0 z0 a1 = R at *
  generalize overS r0 s0 z0 a1 = S at *
  generalize overV r0 s0 z0 a1 = V at *
  generalize overC r0 s0 z0 a1 = C at *
  have nC : (C != C) = false := by simp
  clear hm0
  go_enter Try.func3, Try.ntmps3
  go_wp2_with fail
  generalize w.alloc (.cells #[.int .i64 r0, .int .i64 s0, .slice A0 z0.length k0] 24) = W0 at *
  refine (szField_yes _ _ _ _ _ _ _ (by omega) (by omega)).mono ?_
  rintro e w1 ⟨rfl, hb1⟩
  have HX1 := Lib.hid (HX.out.below hb1)
  have HR1 := Lib.hid (HR0.out.below hb1)
  have HB1 := Lib.hid (bl_trans HBB.out hb1)
  obtain ⟨y0, y1, y2⟩ := HX1.out.fb
  clear hb1 HX HR0 HBB
  go_wp2_with fail
  clear y0 y1 y2
  refine (toField_any r0 s0 A0 k0 z0 _ HR1.out l0).mono ?_
  rintro e w2 ⟨g2, rfl, hg2, ho2, hb2⟩
  have HX2 := Lib.hid (HX1.out.below hb2)
  have HR2 := Lib.hid (HR1.out.below hb2)
  have HB2 := Lib.hid (bl_trans HB1.out hb2)
  clear hb2 HX1 HR1 HB1
  go_wp2_with fail
  refine (HS.out _ _ _ ho2.rd).mono ?_
  rintro e w3 ⟨A3, c3, rfl, hc3, ho3, hb3⟩
  have hb3a := bl_alloc hb3 (.cells #[.int .i64 R, .int .i64 S, .slice A3 V.length c3] 26)
  have HX3 := Lib.hid (HX2.out.below hb3a)
  have HR3 := Lib.hid (HR2.out.below hb3a)
  have HB3 := Lib.hid (bl_trans HB2.out hb3a)
  have X6 := Lib.hid (FBx.new w3 26 R S A3 V.length c3)
  have R6 := Lib.hid (ho3.rd.below (bl_alloc (Below.refl _ _) (.cells #[.int .i64 R, .int .i64 S, .slice A3 V.length c3] 26)))
  clear hb3a hb3 ho3 HX2 HR2 HB2 ho2 hg2 HS
  obtain ⟨y0, y1, y2⟩ := HX3.out.fb
  go_wp2_with fail
  clear y0 y1 y2
  refine (toField_any r0 s0 A0 k0 z0 _ HR3.out l0).mono ?_
  obtain ⟨W3, hW3⟩ : ∃ W3, W3 = w3.alloc (.cells #[.int .i64 R, .int .i64 S, .slice A3 V.length c3] 26) := ⟨_, rfl⟩
  obtain ⟨p6, hp6⟩ : ∃ p6, p6 = w3.heap.size := ⟨_, rfl⟩
  rw [← hW3] at HX3 HR3 HB3 X6 R6 ⊢
  rw [← hp6] at X6
  rw [← hp6]
  have HW3 := Lib.hid hW3
  have HP6 := Lib.hid hp6
  clear hW3 hp6
  rintro e w4 ⟨g4, rfl, hg4, ho4, hb4⟩
  have hbx4 := bl_alloc hb4 (.cells #[.int .i64 r0, .int .i64 s0, .slice (some ⟨g4, 0, none⟩) z0.length z0.length] 26)
  have B34 := Lib.hid hbx4
  have HP8 := Lib.hid (FBx.new w4 26 r0 s0 (some ⟨g4, 0, none⟩) z0.length z0.length)
  have HO4 := Lib.hid (ho4.below (bl_alloc (Below.refl _ _) (.cells #[.int .i64 r0, .int .i64 s0, .slice (some ⟨g4, 0, none⟩) z0.length z0.length] 26)))
  have hg4l : g4 < w4.heap.size := ho4.lt
  clear hbx4 hb4 ho4
  go_wp2_with fail
  refine (HI.out _ _ _ HO4.out.rd).mono ?_
  obtain ⟨W4, hW4⟩ : ∃ W4, W4 = w4.alloc (.cells #[.int .i64 r0, .int .i64 s0, .slice (some ⟨g4, 0, none⟩) z0.length z0.length] 26) := ⟨_, rfl⟩
  obtain ⟨p8, hp8⟩ : ∃ p8, p8 = w4.heap.size := ⟨_, rfl⟩
  have hz4 : W4.heap.size = w4.heap.size + 1 := by rw [hW4]; simp
  have hg4W : g4 < W4.heap.size := by omega
  rw [← hW4] at B34 HP8 HO4 ⊢
  rw [← hp8] at HP8
  rw [← hp8]
  have HW4 := Lib.hid hW4
  have HP8e := Lib.hid hp8
  clear hW4 hp8 hz4 hg4l
  have h34 := B34.out.size
  rintro e w5 ⟨A5, c5, rfl, hc5, ho5, hb5⟩
  have hbx5 := bl_alloc hb5 (.cells #[.int .i64 R, .int .i64 S, .slice A5 V.length c5] 26)
  have B45 := Lib.hid hbx5
  have B35 := Lib.hid (bl_trans B34.out hbx5)
  have HP9 := Lib.hid (FBx.new w5 26 R S A5 V.length c5)
  have O5 := Lib.hid (ho5.below (bl_alloc (Below.refl _ _) (.cells #[.int .i64 R, .int .i64 S, .slice A5 V.length c5] 26)))
  have NE9 := Lib.hid (fun (h0 : V ≠ []) => ho5.ne h0 (Nat.le_refl w5.heap.size))
  have hg9 : w5.heap.size ≠ g4 := by have := hb5.size; omega
  have NG9 := Lib.hid hg9
  clear hbx5 hb5 ho5 hg9
  have X65 := Lib.hid (X6.out.below B35.out)
  have R65 := Lib.hid (R6.out.below B35.out)
  obtain ⟨u0, u1, u2⟩ := X65.out.fb
  have hlt6 := X65.out.lt
  go_wp2_with fail
  clear u0 u1 u2 hlt6
  refine (eqField_same R S A5 A3 c5 c3 V _ O5.out.rd R65.out (by omega)).mono ?_
  obtain ⟨W5, hW5⟩ : ∃ W5, W5 = w5.alloc (.cells #[.int .i64 R, .int .i64 S, .slice A5 V.length c5] 26) := ⟨_, rfl⟩
  obtain ⟨p9, hp9⟩ : ∃ p9, p9 = w5.heap.size := ⟨_, rfl⟩
  rw [← hW5] at B45 B35 HP9 O5 ⊢
  rw [← hp9] at HP9 NE9 NG9
  rw [← hp9]
  have HW5 := Lib.hid hW5
  have HP9e := Lib.hid hp9
  clear hW5 hp9 X65 R65
  rintro e w6 ⟨rfl, hb6⟩
  have B36 := Lib.hid (bl_trans B35.out hb6)
  have B46 := Lib.hid (bl_trans B45.out hb6)
  have HP86 := Lib.hid (HP8.out.below B46.out)
  have HO46 := Lib.hid (HO4.out.below B46.out)
  have HP96 := Lib.hid (HP9.out.below hb6)
  have O56 := Lib.hid (O5.out.below hb6)
  have HX36 := Lib.hid (HX3.out.below B36.out)
  have HR36 := Lib.hid (HR3.out.below B36.out)
  clear hb6 B35 B45 HP9 O5 HP8 HO4
  go_upto_region 10 with fail
  go_cut [49] (fun s49 wx => s49 = .bool false ∧ Below w6.heap.size w6 wx)
  case first =>
    have q0 : ∀ w' : World, Below w6.heap.size w6 w' → w'.cell? ⟨p8, 0, none⟩ = some (.int .i64 r0) := fun w' k => (HP86.out.below k).c0
    have q1 : ∀ w' : World, Below w6.heap.size w6 w' → w'.cell? ⟨p8, 1, none⟩ = some (.int .i64 s0) := fun w' k => (HP86.out.below k).c1
    have q2 : ∀ w' : World, Below w6.heap.size w6 w' → w'.cell? ⟨p8, 2, none⟩ = some (.slice (some ⟨g4, 0, none⟩) z0.length z0.length) := fun w' k => (HP86.out.below k).c2
    have q3 : ∀ w' : World, Below w6.heap.size w6 w' → w'.cell? ⟨w.heap.size, 0, none⟩ = some (.int .i64 r0) := fun w' k => (HX36.out.below k).c0
    have q4 : ∀ w' : World, Below w6.heap.size w6 w' → w'.cell? ⟨w.heap.size, 1, none⟩ = some (.int .i64 s0) := fun w' k => (HX36.out.below k).c1
    have q5 : ∀ w' : World, Below w6.heap.size w6 w' → w'.cell? ⟨w.heap.size, 2, none⟩ = some (.slice A0 z0.length k0) := fun w' k => (HX36.out.below k).c2
    go_region_held3 (fun w' => Below w6.heap.size w6 w') (first | (with_reducible assumption) | (with_reducible exact (Below.refl _ _).drew))
      (first
        | (go_at_call 6; (with_reducible refine (toField_any r0 s0 A0 k0 z0 _ (HR36.out.below (by assumption)) l0).mono ?_); rintro e wa ⟨ga, rfl, hga, hoa, hba⟩; have hSd : Below w6.heap.size w6 wa := bl_trans (by with_reducible assumption) hba)
        | (go_at_call 8; (with_reducible refine (eqField_same r0 s0 _ _ _ _ z0 _ ?_ ?_ l0).mono ?_); (exact (HO46.out.below (by assumption)).rd); (exact hoa.rd); rintro e wd ⟨rfl, hbd⟩; have hSd2 : Below w6.heap.size w6 wd := bl_trans hSd hbd))
    all_goals
      go_wp2_with fail
      go_meet
      exact ⟨rfl, by assumption⟩
  case rest =>
    obtain ⟨rfl, hb7⟩ := hcut
    rename World => w7
    have B37 := Lib.hid (bl_trans B36.out hb7)
    have h47 : W4.heap.size ≤ w7.heap.size := Nat.le_trans B46.out.size hb7.size
    have h37 := B37.out.size
    have HO47 := Lib.hid (HO46.out.below hb7)
    have HP97 := Lib.hid (HP96.out.below hb7)
    have O57 := Lib.hid (O56.out.below hb7)
    have HP87 := Lib.hid (HP86.out.below hb7)
    obtain ⟨u0, u1, u2⟩ := HP87.out.fb
    clear hb7 HP96 O56 HP86 HO46 B36 HX36 HR36
    go_wp2_with fail
    clear u0 u1 u2
    refine (markField_any r0 s0 (some ⟨g4, 0, none⟩) z0.length z0 1 w7 W3.heap.size (.inr ⟨g4, rfl, hg4, HO47.out⟩) h37 l0 (by omega) (by omega)).mono ?_
    rintro e w8 ⟨rfl, _, hb8, hk8⟩
    have B38 := Lib.hid (B37.out.trans hb8)
    have HP98 := Lib.hid (HP97.out.keep hk8 (fun _ q o e => by injection e with e; injection e with e _; rw [← e]; exact NG9.out))
    have O58 := Lib.hid (own_keep O57.out hk8 hg4W)
    have X68 := Lib.hid (X6.out.below B38.out)
    have R68 := Lib.hid (R6.out.below B38.out)
    have d2 : decide ((1 : Int) + (z0.length : Int) < 0) = false := decide_eq_false (by omega)
    have h8 : W4.heap.size ≤ w8.heap.size := Nat.le_trans h47 hb8.size
    obtain ⟨v0, v1, v2⟩ := HP98.out.fb
    obtain ⟨u0, u1, u2⟩ := X68.out.fb
    clear hb8 hk8 HP97 O57 B37 HO47 HP87
    go_wp2_with fail
    clear v0 v1 v2 u0 u1 u2
    refine (eqField_same R S A5 A3 c5 c3 V _ O58.out.rd R68.out (by omega)).mono ?_
    rintro e w9 ⟨rfl, hb9⟩
    have B39 := Lib.hid (bl_trans B38.out hb9)
    have HP99 := Lib.hid (HP98.out.below hb9)
    have O59 := Lib.hid (O58.out.below hb9)
    have h9 : W4.heap.size ≤ w9.heap.size := Nat.le_trans h8 hb9.size
    clear hb9 HP98 O58 X68 R68 B38
    obtain ⟨v0, v1, v2⟩ := HP99.out.fb
    go_wp2_with fail
    clear v0 v1 v2
    refine (markField_any R S A5 c5 V 1 w9 W4.heap.size O59.out h9 (by omega) (by omega) (by omega)).mono ?_
    rintro e w10 ⟨rfl, ho10, hb10, hk10⟩
    have B310 := Lib.hid (B39.out.trans (hb10.mono h34))
    have HP910 := Lib.hid (HP99.out.keep hk10 NE9.out)
    have O10 := Lib.hid ho10
    have nn : ((1 : Int) + (V.length : Int) != 1 + (V.length : Int)) = false := by simp
    have d3 : decide ((1 : Int) + (V.length : Int) < 0) = false := decide_eq_false (by omega)
    clear ho10 hb10 hk10 HP99 O59 B39
    obtain ⟨v0, v1, v2⟩ := HP910.out.fb
    go_wp2_with fail
    clear v0 v1 v2
    refine (heldField_any R S A5 c5 V.length 1 w10 O10.out.rd (by omega) (by omega) (by omega)).mono ?_
    rintro e w11 ⟨rfl, hb11⟩
    have B311 := Lib.hid (bl_trans B310.out hb11)
    have HP911 := Lib.hid (HP910.out.below hb11)
    have O11 := Lib.hid (O10.out.below hb11)
    have HX311 := Lib.hid (HX3.out.below B311.out)
    have HR311 := Lib.hid (HR3.out.below B311.out)
    clear hb11 B310 HP910 O10
    obtain ⟨y0, y1, y2⟩ := HX311.out.fb
    go_wp2_with fail
    clear y0 y1 y2
    refine (toField_any r0 s0 A0 k0 z0 _ HR311.out l0).mono ?_
    rintro e w12 ⟨g12, rfl, hg12, ho12, hb12⟩
    have B312 := Lib.hid (bl_trans B311.out hb12)
    have HP912 := Lib.hid (HP911.out.below hb12)
    have O12 := Lib.hid (O11.out.below hb12)
    have HO12 := Lib.hid ho12
    clear hb12 B311 HP911 O11 HX311 HR311 ho12
    go_wp2_with fail
    refine (HI.out _ _ _ HO12.out.rd).mono ?_
    rintro e w13 ⟨A13, c13, rfl, hc13, ho13, hb13⟩
    have hbx13 := bl_alloc hb13 (.cells #[.int .i64 R, .int .i64 S, .slice A13 V.length c13] 26)
    have B313 := Lib.hid (bl_trans B312.out hbx13)
    have HP913 := Lib.hid (HP912.out.below hbx13)
    have O13 := Lib.hid (O12.out.below hbx13)
    have R13 := Lib.hid (ho13.rd.below (bl_alloc (Below.refl _ _) (.cells #[.int .i64 R, .int .i64 S, .slice A13 V.length c13] 26)))
    have X613 := Lib.hid (X6.out.below B313.out)
    have R613 := Lib.hid (R6.out.below B313.out)
    clear hbx13 hb13 ho13 B312 HP912 O12 HO12
    obtain ⟨u0, u1, u2⟩ := X613.out.fb
    have hlt6 := X613.out.lt
    go_wp2_with fail
    clear u0 u1 u2 hlt6
    refine (eqField_same R S A13 A3 c13 c3 V _ R13.out R613.out (by omega)).mono ?_
    rintro e w14 ⟨rfl, hb14⟩
    have B314 := Lib.hid (bl_trans B313.out hb14)
    have HP914 := Lib.hid (HP913.out.below hb14)
    have O14 := Lib.hid (O13.out.below hb14)
    clear hb14 B313 HP913 O13 R13 X613 R613
    obtain ⟨v0, v1, v2⟩ := HP914.out.fb
    go_wp2_with fail
    clear v0 v1 v2
    refine (heldField_any R S A5 c5 V.length 1 w14 O14.out.rd (by omega) (by omega) (by omega)).mono ?_
    rintro e w15 ⟨rfl, hb15⟩
    go_wp2_with fail
    go_ret
    exact ⟨rfl, bl_trans HB3.out (bl_trans B314.out hb15)⟩
theorem own : ownKnob Try.prog.godebug = none := by kernel_rfl
theorem laidOut : laidOutB Try.prog = true := by kernel_rfl
set_option maxRecDepth 100000 in
theorem lifted (os : Os) (started : os.Started) (H : Type) (enc : TypeId × Value → H) :
    ReturnsInHanded {} Try.checked os 3 .any (Rows.fnExactSnowOverSpec.pre6 enc Try.prog Try.f3 Rows.fnExactSnowOverRow.domain false) (Rows.fnExactSnowOverSpec.post enc Try.prog Try.f3 false true false false) := by
  refine returnsInHanded_of_change (C := Try.checked) own started (by kernel_rfl) Try.func3
    (ChangeSpec.witness6 (enc := enc) (C := Try.checked) false ⟨#[], #[.agg #[.int .i64 0, .int .i64 0, .slice none 0 0], .int .i64 0], []⟩ 8 (by kernel_rfl) (by kernel_rfl) (by kernel_rfl) (by kernel_rfl)) ?_
  intro W base args ds gs before hval0 hW hcnd _
  have hval : ∀ (j : Nat) t v, Try.f3.params[j]? = some t → args[j]? = some v → Value.okWide Try.prog W .any base t v := hval0
  have hW' := hW
  obtain ⟨p, q, hA0, hV, rfl, hfz, hnd⟩ := hW
  have hA : DataW.TrodAll enc Try.prog W 0 (fun _ => true) true Try.f3.params.toList args.toList ds p := hA0
  rw [Try.params3] at hA hval
  obtain ⟨v0, vs0, d0, ds0, p0, q0, hargs, rfl, rfl, h0, r0⟩ := trodAll_cons hA
  obtain ⟨v1, vs1, d1, ds1, p1, q1, rfl, rfl, rfl, h1, r1⟩ := trodAll_cons r0
  obtain ⟨rfl, rfl, rfl⟩ := trodAll_nil r1
  obtain rfl : args = #[v0, v1] := by cases args; simp_all
  obtain ⟨rfl, rfl⟩ := trodVars_none hV
  have k0 := h0
  have lt0 : ∀ x ∈ p0, x.block < W.heap.size := by obtain ⟨m, hm⟩ := k0; exact DataW.trod_lt m _ _ _ hm
  obtain ⟨r0a, c0a, a0, len0, cap0, z0, rfl, w0⟩ := open_field (hval 0 24 v0 rfl rfl) h0
  obtain ⟨a1, rfl, rfl, rfl, w1⟩ := open_int Try.underlying2 (hval 1 2 v1 rfl rfl) h1
  clear hA0 hval0
  refine (walk W r0a c0a a0 len0 cap0 z0 w0 a1 w1).mono fun e W' ⟨he, bel⟩ => ?_
  subst he
  exact ⟨_, rfl, _, _, _, [], _, [], hW', trodAll_mk1 (shut_bool Try.underlying4 _), (trodAll_cons_mk (Below.trod laidOut (by kernel_rfl) (of_decide_eq_true (by kernel_rfl)) k0 bel lt0) (trodAll_cons_mk (shut_int Try.underlying2 w1) trodAll_mk0)), rfl, bel.frame _, fun h => by cases h⟩
theorem over : Rows.fnExactSnowOverRow.holds Try.pinned (OpenSpec.ofChange Rows.fnExactSnowOverSpec) :=
  OpenClaim.holds_of_wide 3 Try.f3 rfl rfl rfl rfl rfl rfl rfl ⟨rfl, rfl, rfl, rfl, rfl⟩ rfl rfl rfl rfl rfl (by kernel_rfl) Try.func3 (by kernel_rfl)
    (of_decide_eq_true (by kernel_rfl)) (by unfold Func.isWrapper; first | (rw [if_pos (by decide +kernel)]; kernel_rfl) | (rw [if_neg (by decide +kernel)]; exact ⟨rfl, rfl⟩))
    (fun os started H enc _ => lifted os started H enc)
theorem proved : Rows.FnExactSnowOverSaid := over
#print axioms proved
end Go.Proofs.Ytdbimgbekfiedaa.fnExactSnowOver
