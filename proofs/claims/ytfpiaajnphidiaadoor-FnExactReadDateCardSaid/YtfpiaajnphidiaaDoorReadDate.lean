/- The law FnExactReadDate holds: the program's ReadDate returns what the reference's returns, for every string, where the library's tables read as the program's text lays them (tied by the card). -/
import Derived.Test.YtfpiaajnphidiaaDoorDateR
import Derived.Test.YtfpiaajnphidiaaDoorDateT
import Derived.Test.YtfpiaajnphidiaaDoorQuiet
namespace Go.Proofs.YtfpiaajnphidiaaDoor.fnExactReadDate
open Go.ChangeShapes Go.WideShapes Go.ChangeAt Go.RowKit
open Go.ChangeMaps (open_string shut_string)
set_option linter.unusedVariables false
theorem size_A (s : ByteArray) (h : s.size = 10) : (s.extract 0 4).size ≤ maxLen := by rw [ByteArray.size_extract]; unfold maxLen; omega
theorem size_B (s : ByteArray) (h : s.size = 10) : (s.extract 5 7).size ≤ maxLen := by rw [ByteArray.size_extract]; unfold maxLen; omega
theorem size_C (s : ByteArray) (h : s.size = 10) : (s.extract 8 s.size).size ≤ maxLen := by rw [ByteArray.size_extract]; unfold maxLen; omega
set_option maxHeartbeats 2000000 in
theorem spec_any (s : ByteArray) (w : World) (hs : s.size ≤ maxLen) : Calls Tryd.prog 14 #[.string s] w fun e w' => e = .returned (.tuple #[.int .i64 (rdV s), .bool (rdB s)]) ∧ Below w.heap.size w w' := by
  by_cases h5 : s.size = 10
  · have hb : ((s.size : Int) != 10) = false := by rw [bne_eq_false_iff_eq]; omega
    have sA := size_A s h5
    have sB := size_B s h5
    have sC := size_C s h5
    have l4 : 4 < s.size := by omega
    have l7 : 7 < s.size := by omega
    have l7b : 7 ≤ s.size := by omega
    have i7 : (7 : Int) ≤ (s.size : Int) := by omega
    have l8 : 8 ≤ s.size := by omega
    have l100 : s.size ≤ 100 := by omega
    have H5 := Lib.hid h5
    clear h5 hs
    by_cases t0 : ((s[4]'(by omega)).toNat : Int) = 45
    · have t0' : (((s[4]'(by omega)).toNat : Int) != 45) = false := by rw [bne_eq_false_iff_eq]; exact t0
      have T0 := Lib.hid t0
      clear t0
      by_cases t7 : ((s[7]'(by omega)).toNat : Int) = 45
      · have t7' : (((s[7]'(by omega)).toNat : Int) != 45) = false := by rw [bne_eq_false_iff_eq]; exact t7
        have T7 := Lib.hid t7
        clear t7
        rcases t1 : digOk (s.extract 0 4) with _ | _
        · have OKF := okR_3 t1
          have F := Lib.hid (rd_f (s := s) (fun h => by rw [OKF] at h; cases h.2))
          clear OKF
          go_enter Tryd.func14, Tryd.ntmps14
          go_wp2_with (go_at_call 31; go_in)
          refine (l02Digits_any _ _ sA).mono ?_
          rintro e w' ⟨rfl, rfl⟩
          go_wp2_with fail
          refine (l02Digits_any _ _ sB).mono ?_
          rintro e w' ⟨rfl, rfl⟩
          go_wp2_with fail
          refine (l02Digits_any _ _ sC).mono ?_
          rintro e w' ⟨rfl, rfl⟩
          go_wp2_with fail
          go_ret2
          exact ⟨(ret2b F.out.1 F.out.2).symm, Below.refl _ _⟩
        rcases t2 : digOk (s.extract 5 7) with _ | _
        · have OKF := okR_4 t2
          have F := Lib.hid (rd_f (s := s) (fun h => by rw [OKF] at h; cases h.2))
          clear OKF
          go_enter Tryd.func14, Tryd.ntmps14
          go_wp2_with (go_at_call 31; go_in)
          refine (l02Digits_any _ _ sA).mono ?_
          rintro e w' ⟨rfl, rfl⟩
          go_wp2_with fail
          refine (l02Digits_any _ _ sB).mono ?_
          rintro e w' ⟨rfl, rfl⟩
          go_wp2_with fail
          refine (l02Digits_any _ _ sC).mono ?_
          rintro e w' ⟨rfl, rfl⟩
          go_wp2_with fail
          go_ret2
          exact ⟨(ret2b F.out.1 F.out.2).symm, Below.refl _ _⟩
        rcases t3 : digOk (s.extract 8 s.size) with _ | _
        · have OKF := okR_5 t3
          have F := Lib.hid (rd_f (s := s) (fun h => by rw [OKF] at h; cases h.2))
          clear OKF
          go_enter Tryd.func14, Tryd.ntmps14
          go_wp2_with (go_at_call 31; go_in)
          refine (l02Digits_any _ _ sA).mono ?_
          rintro e w' ⟨rfl, rfl⟩
          go_wp2_with fail
          refine (l02Digits_any _ _ sB).mono ?_
          rintro e w' ⟨rfl, rfl⟩
          go_wp2_with fail
          refine (l02Digits_any _ _ sC).mono ?_
          rintro e w' ⟨rfl, rfl⟩
          go_wp2_with fail
          go_ret2
          exact ⟨(ret2b F.out.1 F.out.2).symm, Below.refl _ _⟩
        have OK := okR_6 H5.out T0.out T7.out t1 t2 t3
        have F : Hid (rdV s = numDay (digVal0 (s.extract 0 4)) (digVal0 (s.extract 5 7)) (digVal0 (s.extract 8 s.size)) ∧ rdB s = okDay (digVal0 (s.extract 0 4)) (digVal0 (s.extract 5 7)) (digVal0 (s.extract 8 s.size))) := by
          show _ ∧ _
          rw [digVal0_t t1, digVal0_t t2, digVal0_t t3]
          rcases hk : okDay (digVal (dsA s)) (digVal (dsB s)) (digVal (dsC s)) with _ | _
          · have F := rd_f (s := s) (fun h => by rw [OK, hk] at h; cases h.2)
            exact ⟨F.1.trans (num_f hk).1.symm, F.2.trans hk.symm⟩
          · have F := rd_t (s := s) ⟨H5.out, OK.trans hk⟩
            exact ⟨F.1, F.2.trans hk.symm⟩
        clear OK
        go_enter Tryd.func14, Tryd.ntmps14
        go_wp2_with (go_at_call 31; go_in)
        refine (l02Digits_any _ _ sA).mono ?_
        rintro e w' ⟨rfl, rfl⟩
        go_wp2_with fail
        refine (l02Digits_any _ _ sB).mono ?_
        rintro e w' ⟨rfl, rfl⟩
        go_wp2_with fail
        refine (l02Digits_any _ _ sC).mono ?_
        rintro e w' ⟨rfl, rfl⟩
        go_wp2_with fail
        refine (l02Number_any _ _ _ _).mono ?_
        rintro e w1 ⟨rfl, hb1⟩
        go_wp2_with fail
        go_ret2
        exact ⟨(ret2b F.out.1 F.out.2).symm, hb1⟩
      · have t7' : (((s[7]'(by omega)).toNat : Int) != 45) = true := by rw [bne_iff_ne]; exact t7
        have OKF := okR_2 H5.out t7
        clear t7
        have F := Lib.hid (rd_f (s := s) (fun h => by rw [OKF] at h; cases h.2))
        clear OKF
        go_enter Tryd.func14, Tryd.ntmps14
        go_wp2_with (go_at_call 31; go_in)
        go_ret2
        exact ⟨(ret2b F.out.1 F.out.2).symm, Below.refl _ _⟩
    · have t0' : (((s[4]'(by omega)).toNat : Int) != 45) = true := by rw [bne_iff_ne]; exact t0
      have OKF := okR_1 H5.out t0
      clear t0
      have F := Lib.hid (rd_f (s := s) (fun h => by rw [OKF] at h; cases h.2))
      clear OKF
      go_enter Tryd.func14, Tryd.ntmps14
      go_wp2_with (go_at_call 31; go_in)
      go_ret2
      exact ⟨(ret2b F.out.1 F.out.2).symm, Below.refl _ _⟩
  · have hb : ((s.size : Int) != 10) = true := by rw [bne_iff_ne]; omega
    have F := Lib.hid (rd_f (s := s) (fun h => h5 h.1))
    clear h5
    unfold maxLen at hs
    go_enter Tryd.func14, Tryd.ntmps14
    go_wp2_with (go_at_call 31; go_in)
    go_ret2
    exact ⟨(ret2b F.out.1 F.out.2).symm, Below.refl _ _⟩
set_option maxHeartbeats 2000000 in
theorem impl_any (s : ByteArray) (w : World) (hs : s.size ≤ maxLen) (ht : TabOk w) : Calls Tryd.prog 15 #[.string s] w fun e w' => e = .returned (.tuple #[.int .i64 (rdV s), .bool (rdB s)]) ∧ Below w.heap.size w w' := by
  by_cases h5 : s.size = 10
  · have hb : ((s.size : Int) != 10) = false := by rw [bne_eq_false_iff_eq]; omega
    have sA := size_A s h5
    have sB := size_B s h5
    have sC := size_C s h5
    have l4 : 4 ≤ s.size := by omega
    have l7 : 7 ≤ s.size := by omega
    have i7 : (7 : Int) ≤ (s.size : Int) := by omega
    have l8 : 8 ≤ s.size := by omega
    have l100 : s.size ≤ 100 := by omega
    have H5 := Lib.hid h5
    have HT := Lib.hid ht
    clear h5 hs ht
    rcases hd : okDay (digValN (s.extract 0 4)) (digValN (s.extract 5 7)) (digValN (s.extract 8 s.size)) with _ | _
    · have F := Lib.hid (rd_f (s := s) (fun h => by
        obtain ⟨o1, o2, o3, o4⟩ := okR_day h.2
        have h1 : digValN (s.extract 0 4) = digVal (dsA s) := digValN_t o1
        have h2 : digValN (s.extract 5 7) = digVal (dsB s) := digValN_t o2
        have h3 : digValN (s.extract 8 s.size) = digVal (dsC s) := digValN_t o3
        rw [h1, h2, h3, o4] at hd
        cases hd))
      have hc := (num_f hd).2
      clear hd
      go_enter Tryd.func15, Tryd.ntmps15
      go_wp2_with fail
      go_quiet ((first | (go_at_call 33; first | exact quiet_lft (digitsOf_any _ _ sA) | exact quiet_lft (digitsOf_any _ _ sB) | exact quiet_lft (digitsOf_any _ _ sC)) | (go_at_call 32; exact quiet_lft (implDay_any _ _ _ _))))
      go_wp2_with fail
      go_ret2
      exact ⟨(ret2b F.out.1 F.out.2).symm, bl_drewN (Below.refl _ _) _⟩
    · have hc := (num_t hd).2
      have HD := Lib.hid hd
      clear hd
      rcases hk : okR s with _ | _
      · have F := Lib.hid (rd_f (s := s) (fun h => by rw [hk] at h; cases h.2))
        have hq : ((dateT (numDay (digValN (s.extract 0 4)) (digValN (s.extract 5 7)) (digValN (s.extract 8 s.size)))).toList == s.toList) = false := beq_f (okR_ne H5.out hk HD.out)
        clear hk
        go_enter Tryd.func15, Tryd.ntmps15
        go_wp2_with fail
        go_quiet ((first | (go_at_call 33; first | exact quiet_lft (digitsOf_any _ _ sA) | exact quiet_lft (digitsOf_any _ _ sB) | exact quiet_lft (digitsOf_any _ _ sC)) | (go_at_call 32; exact quiet_lft (implDay_any _ _ _ _))))
        go_wp2_with fail
        refine (implDateT_any _ _ (HT.out.drewN _)).mono ?_
        rintro e w1 ⟨rfl, hb1⟩
        go_wp2_with fail
        go_ret2
        exact ⟨(ret2b F.out.1 F.out.2).symm, bl_trans (bl_drewN (Below.refl _ _) _) hb1⟩
      · have F0 := rd_t (s := s) ⟨H5.out, hk⟩
        obtain ⟨o1, o2, o3, o4⟩ := okR_day hk
        have h1 : digValN (s.extract 0 4) = digVal (dsA s) := digValN_t o1
        have h2 : digValN (s.extract 5 7) = digVal (dsB s) := digValN_t o2
        have h3 : digValN (s.extract 8 s.size) = digVal (dsC s) := digValN_t o3
        have E := okR_eq H5.out hk
        rw [← h1, ← h2, ← h3] at F0 E
        have F := Lib.hid F0
        have hq : ((dateT (numDay (digValN (s.extract 0 4)) (digValN (s.extract 5 7)) (digValN (s.extract 8 s.size)))).toList == s.toList) = true := beq_t E
        clear hk F0 o1 o2 o3 o4 h1 h2 h3 E
        go_enter Tryd.func15, Tryd.ntmps15
        go_wp2_with fail
        go_quiet ((first | (go_at_call 33; first | exact quiet_lft (digitsOf_any _ _ sA) | exact quiet_lft (digitsOf_any _ _ sB) | exact quiet_lft (digitsOf_any _ _ sC)) | (go_at_call 32; exact quiet_lft (implDay_any _ _ _ _))))
        go_wp2_with fail
        refine (implDateT_any _ _ (HT.out.drewN _)).mono ?_
        rintro e w1 ⟨rfl, hb1⟩
        go_wp2_with fail
        go_ret2
        exact ⟨(ret2b F.out.1 F.out.2).symm, bl_trans (bl_drewN (Below.refl _ _) _) hb1⟩
  · have hb : ((s.size : Int) != 10) = true := by rw [bne_iff_ne]; omega
    have F := Lib.hid (rd_f (s := s) (fun h => h5 h.1))
    clear h5
    unfold maxLen at hs
    go_enter Tryd.func15, Tryd.ntmps15
    go_wp2
    go_ret2
    exact ⟨(ret2b F.out.1 F.out.2).symm, Below.refl _ _⟩
theorem walk (a0 : ByteArray) (w0 : a0.size ≤ maxLen) (w : World) (ht : TabOk w) :
    Calls Tryd.prog 6 #[.string a0] w fun e w' => e = .returned (.bool true) ∧ Below w.heap.size w w' := by
  have HT := Lib.hid ht
  clear ht
  by_cases hb : 1048576 < a0.size
  · go_enter Tryd.func6, Tryd.ntmps6
    go_wp2
    go_ret
    exact ⟨rfl, Below.refl _ _⟩
  · go_enter Tryd.func6, Tryd.ntmps6
    go_wp2_with fail
    refine (spec_any _ _ w0).mono ?_
    rintro e w1 ⟨rfl, hb1⟩
    go_wp2_with fail
    refine (impl_any _ _ w0 (HT.out.on hb1)).mono ?_
    rintro e w2 ⟨rfl, hb2⟩
    go_wp2_with fail
    go_ret
    exact ⟨rfl, bl_trans hb1 hb2⟩
theorem own : ownKnob Tryd.prog.godebug = none := by kernel_rfl
theorem laidOut : laidOutB Tryd.prog = true := by kernel_rfl
theorem door_met (os : Os) (args : Array Value) : laidMetH Tryd.prog Rows.fnExactReadDateRow.laid ((World.doorLaid Tryd.prog 400 os).forCall (fun _ _ => 0) ⟨#[], args, []⟩).memory :=
  laidMetH_of_parts3 (fuel := 8) (laidMet_of_run' 8 (by kernel_rfl) (by kernel_rfl)) (by kernel_rfl) (by kernel_rfl)
set_option maxRecDepth 100000 in
theorem lifted (os : Os) (started : os.Started) (H : Type) (enc : TypeId × Value → H) :
    ReturnsInHanded {} Tryd.checked os 6 .any (fun w args => (Rows.fnExactReadDateSpec.pre enc Tryd.prog Tryd.f6 Rows.fnExactReadDateRow.domain false w args ∧ laidMetH Tryd.prog Rows.fnExactReadDateRow.laid w) ∧ sizedMet enc Tryd.prog Tryd.f6 (OpenSpec.ofChange Rows.fnExactReadDateSpec) false w args)
      (Rows.fnExactReadDateSpec.post enc Tryd.prog Tryd.f6 false true false false) := by
  refine returnsInHanded_of_change_laid (C := Tryd.checked) (X := fun w _ => laidMetH Tryd.prog Rows.fnExactReadDateRow.laid w) (fun _ _ _ hh h => h.of_heap hh) own started (by kernel_rfl) Tryd.func6
    (ChangeSpec.witness_shaped (enc := enc) (C := Tryd.checked) (os := os) (X := fun w _ => laidMetH Tryd.prog Rows.fnExactReadDateRow.laid w) false (World.doorLaid Tryd.prog 400 os) #[.string ⟨#[]⟩] 8 rfl (World.shaped_of_RefB (by kernel_rfl) (by kernel_rfl)) (by kernel_rfl) (by kernel_rfl) (by kernel_rfl) (door_met os _)) ?_
  intro W base args ds gs before hval0 hW hcnd hL0 hsh _
  have hM0 : laidMet Tryd.prog Rows.fnExactReadDateRow.laid W := by rw [← MakeChecks.laidMetH_plain _ _ _ (by kernel_rfl)]; exact hL0
  have hM1 := hM0.tail
  have hM2 := hM1.tail
  have hM3 := hM2.tail
  have hTab := tab_of_met hM2
  have hval : ∀ (j : Nat) t v, Tryd.f6.params[j]? = some t → args[j]? = some v → Value.okWide Tryd.prog W .any base t v := hval0
  have hW' := hW
  obtain ⟨p, q, hA0, hV, rfl, hfz, hnd⟩ := hW
  have hA : DataW.TrodAll enc Tryd.prog W 0 (fun _ => true) true Tryd.f6.params.toList args.toList ds p := hA0
  rw [Tryd.params6] at hA hval
  obtain ⟨v0, vs0, d0, ds0, p0, q0, hargs, rfl, rfl, h0, r0⟩ := trodAll_cons hA
  obtain ⟨rfl, rfl, rfl⟩ := trodAll_nil r0
  obtain rfl : args = #[v0] := by cases args; simp_all
  obtain ⟨rfl, rfl⟩ := trodVars_none hV
  obtain ⟨a0, rfl, rfl, rfl, w0⟩ := open_string Tryd.underlying9 (hval 0 9 v0 rfl rfl) h0
  clear hA0 hval0
  refine (walk a0 w0 W hTab).mono fun e W' ⟨he, bel⟩ => ?_
  subst he
  exact ⟨_, rfl, _, _, _, [], _, [], hW', trodAll_mk1 (shut_bool Tryd.underlying4 _), (trodAll_cons_mk (shut_string Tryd.underlying9 w0) trodAll_mk0), rfl, bel.frame _, fun h => by cases h⟩
theorem over : Rows.fnExactReadDateRow.holds Tryd.pinned (OpenSpec.ofChange Rows.fnExactReadDateSpec) :=
  OpenClaim.holds_of_wide 6 Tryd.f6 rfl rfl rfl rfl rfl rfl rfl ⟨rfl, rfl, rfl, rfl, rfl⟩ rfl rfl rfl rfl rfl (by kernel_rfl) Tryd.func6 (by kernel_rfl)
    (of_decide_eq_true (by kernel_rfl)) (by unfold Func.isWrapper; first | (rw [if_pos (by decide +kernel)]; kernel_rfl) | (rw [if_neg (by decide +kernel)]; exact ⟨rfl, rfl⟩))
    (fun os started H enc _ => lifted os started H enc)
theorem proved : Rows.FnExactReadDateCardSaid :=
  Claim7.holds_tied_plain_at .later [] [.data, .data, .data] true (true, "5d923c0fd254d0ec15cce3a62d1ab3108fdd87c5802f303b83e3f05faea3aa0d") false
    over (fun _ h => by cases h) (by kernel_rfl) (fun _ h => by cases h) fnExactReadDate_row_tie rfl ⟨rfl, rfl⟩ (by kernel_rfl) rfl
    (fun f fn hf hfn => by
      obtain rfl : f = 6 := Option.some.inj ((show Tryd.prog.funcNamed "loop.example/g01013/laws.FnExactReadDate" = some 6 by kernel_rfl).symm.trans hf) |>.symm
      obtain rfl : fn = Tryd.f6 := (Option.some.inj (Tryd.func6.symm.trans hfn)).symm
      exact ⟨by kernel_rfl, fun j t ht => by
        rw [Tryd.params6] at ht
        have hm : t ∈ [9] := by simpa using Array.mem_of_getElem? ht
        have hall : ([9].all fun u => !Tryd.prog.wantsStandIn u) = true := by kernel_rfl
        exact (show Tryd.prog.wantsStandIn t = false by simpa using List.all_eq_true.1 hall t hm)⟩)
    (by kernel_rfl)
#print axioms proved
end Go.Proofs.YtfpiaajnphidiaaDoor.fnExactReadDate
