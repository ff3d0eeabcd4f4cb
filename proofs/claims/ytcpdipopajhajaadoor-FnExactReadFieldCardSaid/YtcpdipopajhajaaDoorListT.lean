/- A list of numbers as text: the contracts of the program's and of the reference's ListText (the program's in a world with the library's table). -/
import Derived.Test.YtcpdipopajhajaaDoorLstP
import Derived.Test.YtcpdipopajhajaaDoorStrS
import Derived.Test.YtcpdipopajhajaaDoorIntS
import Derived.Test.YtcpdipopajhajaaDoorDecT
namespace Go.Proofs.YtcpdipopajhajaaDoor
open Go.ChangeShapes Go.WideShapes Go.ChangeAt Go.RowKit Go.Deep
set_option linter.unusedVariables false
set_option maxHeartbeats 1000000 in
theorem l01List_any (A : Option Addr) (c : Nat) (ns : List Int) (w : World) (hr : RdI w A ns) (hf : fitsL ns = true) :
    Calls Tryd.prog 60 #[.slice A ns.length c] w fun e w' => e = .returned (.string (listS ns)) ∧ Below w.heap.size w w' := by
  obtain ⟨hall, h64⟩ := fits_yes hf
  clear hf
  have HALL := Lib.hid hall
  clear hall
  by_cases h0 : ns.length = 0
  · obtain rfl : ns = [] := List.length_eq_zero_iff.1 h0
    clear h0
    go_enter Tryd.func60, Tryd.ntmps60
    go_wp2_with fail
    go_ret
    exact ⟨rfl, Below.refl _ _⟩
  have hpos : 0 < ns.length := by omega
  have hz : ((ns.length : Int) == 0) = false := by rw [beq_eq_false_iff_ne]; omega
  have F := Lib.hid (listS_ne hpos)
  clear h0
  have J0 := Lib.hid (joinS_0 ns)
  go_enter Tryd.func60, Tryd.ntmps60
  go_wp2_with fail
  go_loopw [3, 4] (fun o i wr => ∃ k : Nat, k ≤ ns.length ∧ i = .int .i64 k ∧ o = .string (joinS ns k) ∧ Below w.heap.size w wr) (fun _ i _ => ns.length - (intOf i).toNat)
  case atStart => exact ⟨0, Nat.zero_le _, rfl, by rw [J0.out], Below.refl _ _⟩
  case round =>
    obtain ⟨k, hk, rfl, rfl, hb⟩ := hrel
    have hsz := joinS_size ns HALL.out k hk
    by_cases hlt : k < ns.length
    · obtain ⟨g, o, rfl, hx⟩ := (hr.below hb).at_ k hlt
      have hok := List.all_eq_true.1 HALL.out _ (List.getElem_mem hlt)
      have hds := okV_size hok
      obtain ⟨b0, b1⟩ := okV_bd hok
      clear hok
      have z4 : (⟨#[44]⟩ : ByteArray).size ≤ 1 := by decide
      by_cases hk0 : k = 0
      · subst hk0
        have HS := Lib.hid ((joinS_1 hpos).trans (nil_app' (decS ns[0])).symm)
        have z5 : (⟨#[]⟩ : ByteArray).size ≤ 1 := by decide
        rw [J0.out]
        clear hsz
        rw [Nat.add_zero] at hx
        go_wp2_with fail
        refine (l01DecS_any _ _ (by omega) (by omega)).mono ?_
        rintro e w1 ⟨rfl, hb1⟩
        go_wp2_with fail
        go_roundw
        case rel => exact ⟨1, by omega, rfl, by rw [HS.out], bl_trans hb hb1⟩
        case measure => simp [intOf]; omega
      · have HS := Lib.hid (joinS_s (by omega) hlt)
        have hk1 : decide ((0 : Int) < (k : Int)) = true := by simp; omega
        go_wp2_with fail
        refine (l01DecS_any _ _ (by omega) (by omega)).mono ?_
        rintro e w1 ⟨rfl, hb1⟩
        go_wp2_with fail
        go_roundw
        case rel => exact ⟨k + 1, by omega, by go_num, by rw [HS.out], bl_trans hb hb1⟩
        case measure => simp [intOf]; omega
    · obtain rfl : k = ns.length := by omega
      go_wp2_with fail
      go_ret
      exact ⟨(ret_str F.out).symm, hb⟩
set_option maxHeartbeats 1000000 in
theorem implListT_any (A : Option Addr) (c : Nat) (ns : List Int) (w : World) (hr : RdI w A ns) (hn : ns.length ≤ 1048576) (ht : TabOk w) :
    Calls Tryd.prog 36 #[.slice A ns.length c] w fun e w' => e = .returned (.string (listT ns)) ∧ Below w.heap.size w w' := by
  have HT := Lib.hid ht
  clear ht
  by_cases h64 : 64 < ns.length
  · have F := Lib.hid (listT_f (fits_long h64))
    go_enter Tryd.func36, Tryd.ntmps36
    go_wp2_with fail
    go_ret
    exact ⟨(ret_str F.out).symm, Below.refl _ _⟩
  by_cases h0 : ns.length = 0
  · obtain rfl : ns = [] := List.length_eq_zero_iff.1 h0
    clear h0 h64
    go_enter Tryd.func36, Tryd.ntmps36
    go_wp2_with fail
    go_ret
    exact ⟨rfl, Below.refl _ _⟩
  have hpos : 0 < ns.length := by omega
  have hz : ((ns.length : Int) == 0) = false := by rw [beq_eq_false_iff_ne]; omega
  have h65 : ns.length ≤ 64 := by omega
  clear h0 h64
  have hmk := run_mk_str ns.length (by omega)
  have hO0 := Lib.hid (OwnT.made w w.heap.size ns.length (Nat.le_refl _) (by omega))
  have hB0 := Lib.hid (bl_alloc (Below.refl w.heap.size w) (.cells (madeCells #[.string ⟨#[]⟩] ns.length) 9))
  go_enter Tryd.func36, Tryd.ntmps36
  go_wp2_with fail
  clear hmk
  go_loopw [3, 17] (fun s i wr => ∃ (k : Nat) (A : Option Addr) (c : Nat), k ≤ ns.length ∧ i = .int .i64 k ∧ s = .slice A k c ∧ k ≤ c ∧ OwnT wr w.heap.size (.slice A k c) (decsS ns k) ∧ Hid ((ns.take k).all okV = true) ∧ Below w.heap.size w wr) (fun _ i _ => ns.length - (intOf i).toNat)
  case atStart => exact ⟨0, _, _, Nat.zero_le _, rfl, rfl, Nat.zero_le _, hO0.out, by show _ = _; simp, hB0.out⟩
  case round =>
    obtain ⟨k, A1, c1, hk, rfl, rfl, hkc, ho, ha, hb⟩ := hrel
    have HO := Lib.hid ho
    clear ho
    by_cases hlt : k < ns.length
    · obtain ⟨g, o, rfl, hx⟩ := (hr.below hb).at_ k hlt
      rcases hv : okV ns[k] with _ | _
      · have F := Lib.hid (listT_f (fits_bad k hlt hv))
        have hv' : inB ns[k] (-1000000000000) 1000000000000 = false := hv
        clear hv
        go_wp2_with (go_at_call 57; refine (within_any _ _ _ _).mono ?_; rintro e w' ⟨rfl, rfl⟩)
        go_ret
        exact ⟨(ret_str F.out).symm, hb⟩
      · have HA := Lib.hid (allV_snoc ns k hlt ha.out hv)
        obtain ⟨b0, b1⟩ := okV_bd hv
        have hv' : inB ns[k] (-1000000000000) 1000000000000 = true := hv
        clear hv
        have HS := Lib.hid (decsS_s hlt)
        have HL := Lib.hid (decsS_len (ns := ns) hk)
        go_wp2_with (go_at_call 57; refine (within_any _ _ _ _).mono ?_; rintro e w' ⟨rfl, rfl⟩)
        clear hx
        refine (implDec_any _ _ (by omega) (by omega) (HT.out.on hb)).mono ?_
        rintro e w1 ⟨rfl, hb1⟩
        have hb01 := bl_trans hb hb1
        go_wp2_with (at_builtin; refine wpList_app_str _ rfl (.tmp 24) (.tmp 27) rfl w.heap.size _ (decsS ns k) rfl ((HO.out.below hb1).alloc _) w1.heap.size (decS ns[k]) rfl (new1s _ _ _) (by rw [HL.out]; omega) (bl_alloc hb01 _).size ?_; intro v' w2 ho2 hg2)
        have hb02 : Below w.heap.size w w2 := Below.grown (bl_alloc hb01 _) hg2 (bl_alloc hb01 _).size (HO.out.ge)
        rw [← HS.out] at ho2
        obtain ⟨A2, c2, rfl, hc2⟩ := ho2.form
        rw [decsS_len (by omega)] at ho2 hc2
        rw [decsS_len (by omega)]
        go_roundw
        case rel => exact ⟨k + 1, A2, c2, by omega, by go_num, rfl, hc2, ho2, HA, hb02⟩
        case measure => simp [intOf]; omega
    · obtain rfl : k = ns.length := by omega
      have HALL := Lib.hid (allV_take ns ha.out)
      have F := Lib.hid ((listT_t (fits_t HALL.out h65)).trans (listS_ne hpos))
      obtain ⟨g, rfl, hg, _, hcells⟩ := HO.out.at_ (by rw [decsS_len (Nat.le_refl _)]; exact hpos)
      have HC := Lib.hid hcells
      clear hcells
      have HJ := Lib.hid (decsS_join ns ns.length)
      have hjl := joinL_size ns HALL.out ns.length (Nat.le_refl _)
      have HCALL : Hid (Calls Tryd.prog 47 #[.slice (some ⟨g, 0, none⟩) ns.length c1, .string ⟨#[44]⟩] wr fun e w' => e = .returned (.string (joinS ns ns.length)) ∧ Below wr.heap.size wr w') := by
        have hl := decsS_len (ns := ns) (Nat.le_refl ns.length)
        have := Tryd.strings_Join g 0 c1 (decsS ns ns.length) ⟨#[44]⟩ wr HC.out hg (by omega) (by omega) (by
          show (Lib.join ((decsS ns ns.length).map (·.data.toList)) [44]).length ≤ _
          rw [HJ.out]; omega)
        rw [hl] at this
        refine Lib.hid (this.mono fun e w' h => ⟨h.1.trans ?_, h.2⟩)
        refine ret_str ?_
        show (⟨(Lib.join ((decsS ns ns.length).map (·.data.toList)) [44]).toArray⟩ : ByteArray) = _
        rw [HJ.out]
        rfl
      clear hjl
      go_wp2_with fail
      refine (HCALL.out).mono ?_
      rintro e w1 ⟨rfl, hb1⟩
      go_wp2_with fail
      go_ret
      exact ⟨(ret_str F.out).symm, bl_trans hb hb1⟩
end Go.Proofs.YtcpdipopajhajaaDoor
