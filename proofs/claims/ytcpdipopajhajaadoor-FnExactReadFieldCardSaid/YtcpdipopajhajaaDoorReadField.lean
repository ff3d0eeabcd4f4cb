/- The law FnExactReadField holds: the program's ReadField returns what the reference's returns, in memory of its own, for every string, where the library's tables and sentinels read as the program's text lays them (tied by the card). -/
import Derived.Test.YtcpdipopajhajaaDoorReadF
import Derived.Test.YtcpdipopajhajaaDoorFldMk
import Derived.Lay
import Derived.LaidMore
namespace Go.Proofs.YtcpdipopajhajaaDoor.fnExactReadField
open Go.ChangeShapes Go.WideShapes Go.ChangeAt Go.RowKit Go.Deep
open Go.ChangeMaps (open_string shut_string)
set_option linter.unusedVariables false
theorem rfV_len (s : ByteArray) : (rfV s).length ≤ 64 := by
  unfold rfV
  split
  · exact rdV_le _
  · simp
set_option maxRecDepth 20000 in
set_option maxHeartbeats 4000000 in
theorem walk (a0 : ByteArray) (w0 : a0.size ≤ maxLen) (w : World) (ht : TabOk w) (h1 : SynOk w) (h2 : RngOk w) (hsh : w.ShapedOpen Tryd.prog) :
    Calls Tryd.prog 7 #[.string a0] w fun e w' => e = .returned (.bool true) ∧ Below w.heap.size w w' := by
  by_cases hb : 1048576 < a0.size
  · clear hsh
    go_enter Tryd.func7, Tryd.ntmps7
    go_wp2
    go_ret
    exact ⟨rfl, Below.refl _ _⟩
  · have hs : a0.size ≤ 1048576 := by omega
    have hL : LibOk w := ⟨ht, h1, h2, Tryd.laysM145.s1_3 w hsh⟩
    have HI : Hid (∀ W : World, Below w.heap.size w W → Calls Tryd.prog 28 #[.string a0] W (GivesFB W (rfR a0) (rfC a0) (rfV a0) (rfOk a0))) := Lib.hid fun W hW => implRdF_any a0 W hs (hL.on hW)
    have HS := Lib.hid fun W : World => specRdF_any a0 W hs
    have hlen := rfV_len a0
    clear ht h1 h2 hL hsh
    generalize rfR a0 = r at *
    generalize rfC a0 = k at *
    generalize rfV a0 = L at *
    generalize rfOk a0 = B at *
    have nn0 : (B != B) = false := by cases B <;> rfl
    go_enter Tryd.func7, Tryd.ntmps7
    go_wp2_with fail
    refine (HS.out _).mono ?_
    rintro e w1 ⟨A1, c1, rfl, hc1, ho1, hb1⟩
    have hbx1 := bl_alloc (Below.refl w1.heap.size w1) (.cells #[.int .i64 r, .int .i64 k, .slice A1 L.length c1] 32)
    have X1 := Lib.hid (FBx.new w1 32 r k A1 L.length c1)
    have R1 := Lib.hid (ho1.rd.below hbx1)
    have HB1 := Lib.hid (bl_trans hb1 hbx1)
    clear ho1 hb1 hbx1
    go_wp2_with fail
    refine (HI.out _ HB1.out).mono ?_
    obtain ⟨W1, hW1⟩ : ∃ W1, W1 = w1.alloc (.cells #[.int .i64 r, .int .i64 k, .slice A1 L.length c1] 32) := ⟨_, rfl⟩
    obtain ⟨p1, hp1⟩ : ∃ p1, p1 = w1.heap.size := ⟨_, rfl⟩
    rw [← hW1] at X1 R1 HB1 ⊢
    rw [← hp1] at X1
    rw [← hp1]
    have HW1 := Lib.hid hW1
    have HP1 := Lib.hid hp1
    clear hW1 hp1
    rintro e w2 ⟨A2, c2, rfl, hc2, ho2, hb2⟩
    have hbx2 := bl_alloc (Below.refl w2.heap.size w2) (.cells #[.int .i64 r, .int .i64 k, .slice A2 L.length c2] 32)
    have X2 := Lib.hid (FBx.new w2 32 r k A2 L.length c2)
    have O2 := Lib.hid (ho2.below hbx2)
    have NE2 := Lib.hid fun h0 => ho2.ne h0 (Nat.le_refl w2.heap.size)
    have HB12 := Lib.hid (bl_trans hb2 hbx2)
    have X12 := Lib.hid (X1.out.below HB12.out)
    have R12 := Lib.hid (R1.out.below HB12.out)
    clear ho2 hb2 hbx2
    have hlt1 := X12.out.lt
    have hlt2 := X2.out.lt
    obtain ⟨u0, u1, u2⟩ := X12.out.fb
    clear hlt2
    go_wp2_with fail
    refine (eqField_same r k A2 A1 c2 c1 L _ O2.out.rd R12.out (by omega)).mono ?_
    clear u0 u1 u2 hlt1
    obtain ⟨W2, hW2⟩ : ∃ W2, W2 = w2.alloc (.cells #[.int .i64 r, .int .i64 k, .slice A2 L.length c2] 32) := ⟨_, rfl⟩
    obtain ⟨p2, hp2⟩ : ∃ p2, p2 = w2.heap.size := ⟨_, rfl⟩
    rw [← hW2] at X2 O2 HB12 X12 R12 ⊢
    rw [← hp2] at X2 NE2
    rw [← hp2]
    have HW2 := Lib.hid hW2
    have HP2 := Lib.hid hp2
    clear hW2 hp2
    rintro e w3 ⟨rfl, hb3⟩
    have X23 := Lib.hid (X2.out.below hb3)
    have O3 := Lib.hid (O2.out.below hb3)
    have HB13 := Lib.hid (bl_trans HB12.out hb3)
    have hz13 := HB13.out.size
    clear hb3 X2 O2 X12 R12
    obtain ⟨v0, v1, v2⟩ := X23.out.fb
    go_wp2_with fail
    clear v0 v1 v2
    refine (markField_any r k A2 c2 L 1 w3 W1.heap.size O3.out hz13 (by omega) (by omega) (by omega)).mono ?_
    rintro e w4 ⟨rfl, ho4, hb4, hk4⟩
    have O4 := Lib.hid ho4
    have HB14 := Lib.hid (HB13.out.trans hb4)
    have X24 := Lib.hid (X23.out.keep hk4 NE2.out)
    have nn : ((1 : Int) + (L.length : Int) != 1 + (L.length : Int)) = false := by simp
    have d1 : decide ((1 : Int) + (L.length : Int) < 0) = false := decide_eq_false (by omega)
    clear ho4 hb4 hk4 X23 O3 HB13 hz13
    obtain ⟨v0, v1, v2⟩ := X24.out.fb
    go_wp2_with fail
    clear v0 v1 v2
    refine (heldField_any r k A2 c2 L.length 1 w4 O4.out.rd (by omega) (by omega) (by omega)).mono ?_
    rintro e w5 ⟨rfl, hb5⟩
    have HB15 := Lib.hid (bl_trans HB14.out hb5)
    have X25 := Lib.hid (X24.out.below hb5)
    have O5 := Lib.hid (O4.out.below hb5)
    have HB05 := Lib.hid (bl_trans HB1.out HB15.out)
    clear hb5 X24 O4 HB14
    go_wp2_with fail
    refine (HI.out _ HB05.out).mono ?_
    rintro e w6 ⟨A6, c6, rfl, hc6, ho6, hb6⟩
    have hbx6 := bl_alloc (Below.refl w6.heap.size w6) (.cells #[.int .i64 r, .int .i64 k, .slice A6 L.length c6] 32)
    have hb56 := bl_trans hb6 hbx6
    have R6 := Lib.hid (ho6.rd.below hbx6)
    have X26 := Lib.hid (X25.out.below hb56)
    have O6 := Lib.hid (O5.out.below hb56)
    have HB16 := Lib.hid (bl_trans HB15.out hb56)
    have X16 := Lib.hid (X1.out.below HB16.out)
    have R16 := Lib.hid (R1.out.below HB16.out)
    clear ho6 hb6 hbx6 hb56 X25 O5 HB15
    obtain ⟨u0, u1, u2⟩ := X16.out.fb
    have hlt1 := X16.out.lt
    go_wp2_with fail
    clear u0 u1 u2 hlt1
    refine (eqField_same r k A6 A1 c6 c1 L _ R6.out R16.out (by omega)).mono ?_
    rintro e w7 ⟨rfl, hb7⟩
    have X27 := Lib.hid (X26.out.below hb7)
    have O7 := Lib.hid (O6.out.below hb7)
    have HB17 := Lib.hid (bl_trans HB16.out hb7)
    clear hb7 X26 O6 HB16 X16 R16 R6
    obtain ⟨v0, v1, v2⟩ := X27.out.fb
    go_wp2_with fail
    clear v0 v1 v2
    refine (heldField_any r k A2 c2 L.length 1 w7 O7.out.rd (by omega) (by omega) (by omega)).mono ?_
    rintro e w8 ⟨rfl, hb8⟩
    go_wp2_with fail
    go_ret
    exact ⟨rfl, bl_trans HB1.out (bl_trans HB17.out hb8)⟩
theorem own : ownKnob Tryd.prog.godebug = none := by kernel_rfl
theorem laidOut : laidOutB Tryd.prog = true := by kernel_rfl
set_option maxRecDepth 100000 in
theorem door_met (os : Os) (args : Array Value) : laidMetH Tryd.prog Rows.fnExactReadFieldRow.laid ((World.laidAll Tryd.prog os Rows.fnExactReadFieldRow.laid).forCall (fun _ _ => 0) ⟨#[], args, []⟩).memory := by
  rw [MakeChecks.laidMetH_plain _ _ _ (by kernel_rfl)]
  exact laidMet_laidAll _ (by kernel_rfl) (by kernel_rfl)
set_option maxRecDepth 100000 in
theorem lifted (os : Os) (started : os.Started) (H : Type) (enc : TypeId × Value → H) :
    ReturnsInHanded {} Tryd.checked os 7 .any (fun w args => (Rows.fnExactReadFieldSpec.pre enc Tryd.prog Tryd.f7 Rows.fnExactReadFieldRow.domain false w args ∧ laidMetH Tryd.prog Rows.fnExactReadFieldRow.laid w) ∧ sizedMet enc Tryd.prog Tryd.f7 (OpenSpec.ofChange Rows.fnExactReadFieldSpec) false w args)
      (Rows.fnExactReadFieldSpec.post enc Tryd.prog Tryd.f7 false true false false) := by
  refine returnsInHanded_of_change_laid (C := Tryd.checked) (X := fun w _ => laidMetH Tryd.prog Rows.fnExactReadFieldRow.laid w) (fun _ _ _ hh h => h.of_heap hh) own started (by kernel_rfl) Tryd.func7
    (ChangeSpec.witness_shaped (enc := enc) (C := Tryd.checked) (os := os) (X := fun w _ => laidMetH Tryd.prog Rows.fnExactReadFieldRow.laid w) false (World.laidAll Tryd.prog os Rows.fnExactReadFieldRow.laid) #[.string ⟨#[]⟩] 8 (World.laidAll_os _ _ _) (World.shaped_of_ZipB (by kernel_rfl) (by kernel_rfl)) (by kernel_rfl) (by kernel_rfl) (by kernel_rfl) (door_met os _)) ?_
  intro W base args ds gs before hval0 hW hcnd hL0 hsh _
  have hM0 : laidMet Tryd.prog Rows.fnExactReadFieldRow.laid W := by rw [← MakeChecks.laidMetH_plain _ _ _ (by kernel_rfl)]; exact hL0
  have hM1 := hM0.tail
  have hM2 := hM1.tail
  have hM3 := hM2.tail
  have hM4 := hM3.tail
  have hM5 := hM4.tail
  have hM6 := hM5.tail
  have hM7 := hM6.tail
  have hTab := tab_of_met hM2
  have hES := hES_of_met hM5
  have hER := hER_of_met hM4
  have hval : ∀ (j : Nat) t v, Tryd.f7.params[j]? = some t → args[j]? = some v → Value.okWide Tryd.prog W .any base t v := hval0
  have hW' := hW
  obtain ⟨p, q, hA0, hV, rfl, hfz, hnd⟩ := hW
  have hA : DataW.TrodAll enc Tryd.prog W 0 (fun _ => true) true Tryd.f7.params.toList args.toList ds p := hA0
  rw [Tryd.params7] at hA hval
  obtain ⟨v0, vs0, d0, ds0, p0, q0, hargs, rfl, rfl, h0, r0⟩ := trodAll_cons hA
  obtain ⟨rfl, rfl, rfl⟩ := trodAll_nil r0
  obtain rfl : args = #[v0] := by cases args; simp_all
  obtain ⟨rfl, rfl⟩ := trodVars_none hV
  obtain ⟨a0, rfl, rfl, rfl, w0⟩ := open_string Tryd.underlying9 (hval 0 9 v0 rfl rfl) h0
  clear hA0 hval0
  refine (walk a0 w0 W hTab hES hER hsh).mono fun e W' ⟨he, bel⟩ => ?_
  subst he
  exact ⟨_, rfl, _, _, _, [], _, [], hW', trodAll_mk1 (shut_bool Tryd.underlying4 _), (trodAll_cons_mk (shut_string Tryd.underlying9 w0) trodAll_mk0), rfl, bel.frame _, fun h => by cases h⟩
theorem over : Rows.fnExactReadFieldRow.holds Tryd.pinned (OpenSpec.ofChange Rows.fnExactReadFieldSpec) :=
  OpenClaim.holds_of_wide 7 Tryd.f7 rfl rfl rfl rfl rfl rfl rfl ⟨rfl, rfl, rfl, rfl, rfl⟩ rfl rfl rfl rfl rfl (by kernel_rfl) Tryd.func7 (by kernel_rfl)
    (of_decide_eq_true (by kernel_rfl)) (by unfold Func.isWrapper; first | (rw [if_pos (by decide +kernel)]; kernel_rfl) | (rw [if_neg (by decide +kernel)]; exact ⟨rfl, rfl⟩))
    (fun os started H enc _ => lifted os started H enc)
theorem proved : Rows.FnExactReadFieldCardSaid :=
  Claim7.holds_tied_plain_at .later [] [.data, .data, .data, .data, .sentinel, .sentinel, .pinned] true (true, "4fde6f701146cc107cf5e0b035f369005703b919a42dc59aed7912143d24d3cd") true
    over (fun _ h => by cases h) (by kernel_rfl) (fun _ h => by cases h) fnExactReadField_row_tie rfl ⟨rfl, rfl⟩ (by kernel_rfl) rfl
    (fun f fn hf hfn => by
      obtain rfl : f = 7 := Option.some.inj ((show Tryd.prog.funcNamed "loop.example/g01013/laws.FnExactReadField" = some 7 by kernel_rfl).symm.trans hf) |>.symm
      obtain rfl : fn = Tryd.f7 := (Option.some.inj (Tryd.func7.symm.trans hfn)).symm
      exact ⟨by kernel_rfl, fun j t ht => by
        rw [Tryd.params7] at ht
        have hm : t ∈ [9] := by simpa using Array.mem_of_getElem? ht
        have hall : ([9].all fun u => !Tryd.prog.wantsStandIn u) = true := by kernel_rfl
        exact (show Tryd.prog.wantsStandIn t = false by simpa using List.all_eq_true.1 hall t hm)⟩)
    (by kernel_rfl)
#print axioms proved
end Go.Proofs.YtcpdipopajhajaaDoor.fnExactReadField
