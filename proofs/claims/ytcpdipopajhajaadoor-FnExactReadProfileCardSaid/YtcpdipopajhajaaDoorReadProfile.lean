/- The law FnExactReadProfile holds: the program's ReadProfile returns what the reference's returns, in memory of its own, for every string, where the library's tables and sentinels read as the program's text lays them (tied by the card). -/
import Derived.Test.YtcpdipopajhajaaDoorReadP
import Derived.Lay
import Derived.LaidMore
namespace Go.Proofs.YtcpdipopajhajaaDoor.fnExactReadProfile
open Go.ChangeShapes Go.WideShapes Go.ChangeAt Go.RowKit Go.Deep
open Go.ChangeMaps (open_string shut_string)
set_option linter.unusedVariables false
set_option maxRecDepth 20000 in
set_option maxHeartbeats 2000000 in
theorem walk (a0 : ByteArray) (w0 : a0.size ≤ maxLen) (w : World) (ht : TabOk w) (h1 : SynOk w) (h2 : RngOk w) (hsh : w.ShapedOpen Tryd.prog) :
    Calls Tryd.prog 6 #[.string a0] w fun e w' => e = .returned (.bool true) ∧ Below w.heap.size w w' := by
  by_cases hb : 1048576 < a0.size
  · clear hsh
    go_enter Tryd.func6, Tryd.ntmps6
    go_wp2
    go_ret
    exact ⟨rfl, Below.refl _ _⟩
  · have hs : a0.size ≤ 1048576 := by omega
    have hL : LibOk w := ⟨ht, h1, h2, Tryd.laysM147.s1_3 w hsh⟩
    have HI : Hid (∀ W : World, Below w.heap.size w W → Calls Tryd.prog 24 #[.string a0] W (GivesLB W (rpV a0) (rpOk a0))) := Lib.hid fun W hW => implRdP_any a0 W hs (hL.on hW)
    have HS := Lib.hid fun W : World => specRdP_any a0 W hs
    have hlen := rpV_len a0
    clear ht h1 h2 hL hsh
    generalize rpV a0 = L at *
    generalize rpOk a0 = B at *
    have nn0 : (B != B) = false := by cases B <;> rfl
    go_enter Tryd.func6, Tryd.ntmps6
    go_wp2_with fail
    refine (HS.out _).mono ?_
    rintro e w1 ⟨v1, rfl, ho1, hb1⟩
    obtain ⟨A1, c1, rfl, hO1⟩ := ho1.out
    have R1 := Lib.hid hO1.rd
    clear ho1 hO1
    go_wp2_with fail
    refine (HI.out _ hb1).mono ?_
    rintro e w2 ⟨v2, rfl, ho2, hb2⟩
    obtain ⟨A2, c2, rfl, hO2⟩ := ho2.out
    have O2 := Lib.hid hO2
    clear ho2 hO2
    go_wp2_with fail
    refine (eqLayerS_same A2 A1 c2 c1 L _ O2.out.rd (R1.out.below hb2) (by omega)).mono ?_
    rintro e w3 ⟨rfl, hb3⟩
    go_wp2_with fail
    refine (mark_any A2 c2 L 1 w3 w1.heap.size (O2.out.below hb3) (by omega) (by omega) (by omega)).mono ?_
    rintro e w4 hm4
    obtain ⟨rfl, ho4, hb4⟩ := hm4.use (O2.out.below hb3) (Nat.le_trans hb2.size hb3.size)
    have O4 := Lib.hid ho4
    clear ho4 hm4
    have hb14 : Below w1.heap.size w1 w4 := (bl_trans hb2 hb3).trans hb4
    have hb04 := bl_trans hb1 hb14
    have nn : ((1 : Int) + 7 * (L.length : Int) != 1 + 7 * (L.length : Int)) = false := by simp
    have d1 : decide ((1 : Int) + 7 * (L.length : Int) < 0) = false := decide_eq_false (by omega)
    go_wp2_with fail
    refine (held_any A2 c2 L.length 1 w4 O4.out.rd (by omega) (by omega) (by omega)).mono ?_
    rintro e w5 ⟨rfl, rfl⟩
    go_wp2_with fail
    refine (HI.out _ hb04).mono ?_
    rintro e w6 ⟨v6, rfl, ho6, hb6⟩
    obtain ⟨A6, c6, rfl, hO6⟩ := ho6.out
    have R6 := Lib.hid hO6.rd
    clear ho6 hO6
    go_wp2_with fail
    refine (eqLayerS_same A6 A1 c6 c1 L _ R6.out (R1.out.below (bl_trans hb14 hb6)) (by omega)).mono ?_
    rintro e w7 ⟨rfl, hb7⟩
    have hb57 := bl_trans hb6 hb7
    go_wp2_with fail
    refine (held_any A2 c2 L.length 1 w7 ((O4.out.below hb57).rd) (by omega) (by omega) (by omega)).mono ?_
    rintro e w8 ⟨rfl, rfl⟩
    go_wp2_with fail
    go_ret
    exact ⟨rfl, bl_trans hb04 hb57⟩
theorem own : ownKnob Tryd.prog.godebug = none := by kernel_rfl
theorem laidOut : laidOutB Tryd.prog = true := by kernel_rfl
set_option maxRecDepth 100000 in
theorem door_met (os : Os) (args : Array Value) : laidMetH Tryd.prog Rows.fnExactReadProfileRow.laid ((World.laidAll Tryd.prog os Rows.fnExactReadProfileRow.laid).forCall (fun _ _ => 0) ⟨#[], args, []⟩).memory := by
  rw [MakeChecks.laidMetH_plain _ _ _ (by kernel_rfl)]
  exact laidMet_laidAll _ (by kernel_rfl) (by kernel_rfl)
set_option maxRecDepth 100000 in
theorem lifted (os : Os) (started : os.Started) (H : Type) (enc : TypeId × Value → H) :
    ReturnsInHanded {} Tryd.checked os 6 .any (fun w args => (Rows.fnExactReadProfileSpec.pre enc Tryd.prog Tryd.f6 Rows.fnExactReadProfileRow.domain false w args ∧ laidMetH Tryd.prog Rows.fnExactReadProfileRow.laid w) ∧ sizedMet enc Tryd.prog Tryd.f6 (OpenSpec.ofChange Rows.fnExactReadProfileSpec) false w args)
      (Rows.fnExactReadProfileSpec.post enc Tryd.prog Tryd.f6 false true false false) := by
  refine returnsInHanded_of_change_laid (C := Tryd.checked) (X := fun w _ => laidMetH Tryd.prog Rows.fnExactReadProfileRow.laid w) (fun _ _ _ hh h => h.of_heap hh) own started (by kernel_rfl) Tryd.func6
    (ChangeSpec.witness_shaped (enc := enc) (C := Tryd.checked) (os := os) (X := fun w _ => laidMetH Tryd.prog Rows.fnExactReadProfileRow.laid w) false (World.laidAll Tryd.prog os Rows.fnExactReadProfileRow.laid) #[.string ⟨#[]⟩] 8 (World.laidAll_os _ _ _) (World.shaped_of_ZipB (by kernel_rfl) (by kernel_rfl)) (by kernel_rfl) (by kernel_rfl) (by kernel_rfl) (door_met os _)) ?_
  intro W base args ds gs before hval0 hW hcnd hL0 hsh _
  have hM0 : laidMet Tryd.prog Rows.fnExactReadProfileRow.laid W := by rw [← MakeChecks.laidMetH_plain _ _ _ (by kernel_rfl)]; exact hL0
  have hM1 := hM0.tail
  have hM2 := hM1.tail
  have hM3 := hM2.tail
  have hM4 := hM3.tail
  have hM5 := hM4.tail
  have hM6 := hM5.tail
  have hM7 := hM6.tail
  have hTab := tab_of_met hM2
  have hES := hES_of_met hM5
  have hER := hER_of_met hM4
  have hval : ∀ (j : Nat) t v, Tryd.f6.params[j]? = some t → args[j]? = some v → Value.okWide Tryd.prog W .any base t v := hval0
  have hW' := hW
  obtain ⟨p, q, hA0, hV, rfl, hfz, hnd⟩ := hW
  have hA : DataW.TrodAll enc Tryd.prog W 0 (fun _ => true) true Tryd.f6.params.toList args.toList ds p := hA0
  rw [Tryd.params6] at hA hval
  obtain ⟨v0, vs0, d0, ds0, p0, q0, hargs, rfl, rfl, h0, r0⟩ := trodAll_cons hA
  obtain ⟨rfl, rfl, rfl⟩ := trodAll_nil r0
  obtain rfl : args = #[v0] := by cases args; simp_all
  obtain ⟨rfl, rfl⟩ := trodVars_none hV
  obtain ⟨a0, rfl, rfl, rfl, w0⟩ := open_string Tryd.underlying9 (hval 0 9 v0 rfl rfl) h0
  clear hA0 hval0
  refine (walk a0 w0 W hTab hES hER hsh).mono fun e W' ⟨he, bel⟩ => ?_
  subst he
  exact ⟨_, rfl, _, _, _, [], _, [], hW', trodAll_mk1 (shut_bool Tryd.underlying4 _), (trodAll_cons_mk (shut_string Tryd.underlying9 w0) trodAll_mk0), rfl, bel.frame _, fun h => by cases h⟩
theorem over : Rows.fnExactReadProfileRow.holds Tryd.pinned (OpenSpec.ofChange Rows.fnExactReadProfileSpec) :=
  OpenClaim.holds_of_wide 6 Tryd.f6 rfl rfl rfl rfl rfl rfl rfl ⟨rfl, rfl, rfl, rfl, rfl⟩ rfl rfl rfl rfl rfl (by kernel_rfl) Tryd.func6 (by kernel_rfl)
    (of_decide_eq_true (by kernel_rfl)) (by unfold Func.isWrapper; first | (rw [if_pos (by decide +kernel)]; kernel_rfl) | (rw [if_neg (by decide +kernel)]; exact ⟨rfl, rfl⟩))
    (fun os started H enc _ => lifted os started H enc)
theorem proved : Rows.FnExactReadProfileCardSaid :=
  Claim7.holds_tied_plain_at .later [] [.data, .data, .data, .data, .sentinel, .sentinel, .pinned] true (true, "4fde6f701146cc107cf5e0b035f369005703b919a42dc59aed7912143d24d3cd") true
    over (fun _ h => by cases h) (by kernel_rfl) (fun _ h => by cases h) fnExactReadProfile_row_tie rfl ⟨rfl, rfl⟩ (by kernel_rfl) rfl
    (fun f fn hf hfn => by
      obtain rfl : f = 6 := Option.some.inj ((show Tryd.prog.funcNamed "loop.example/g01013/laws.FnExactReadProfile" = some 6 by kernel_rfl).symm.trans hf) |>.symm
      obtain rfl : fn = Tryd.f6 := (Option.some.inj (Tryd.func6.symm.trans hfn)).symm
      exact ⟨by kernel_rfl, fun j t ht => by
        rw [Tryd.params6] at ht
        have hm : t ∈ [9] := by simpa using Array.mem_of_getElem? ht
        have hall : ([9].all fun u => !Tryd.prog.wantsStandIn u) = true := by kernel_rfl
        exact (show Tryd.prog.wantsStandIn t = false by simpa using List.all_eq_true.1 hall t hm)⟩)
    (by kernel_rfl)
#print axioms proved
end Go.Proofs.YtcpdipopajhajaaDoor.fnExactReadProfile
