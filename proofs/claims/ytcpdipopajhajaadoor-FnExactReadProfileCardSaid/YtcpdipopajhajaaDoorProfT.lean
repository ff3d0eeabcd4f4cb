/- A profile as text: the contracts of the program's and of the reference's ProfileText (the program's in a world with the library's table). -/
import Derived.Test.YtcpdipopajhajaaDoorProfP
import Derived.Test.YtcpdipopajhajaaDoorListT
import Derived.Test.YtcpdipopajhajaaDoorOkL
import Derived.Test.YtcpdipopajhajaaDoorLst
namespace Go.Proofs.YtcpdipopajhajaaDoor
open Go.ChangeShapes Go.WideShapes Go.ChangeAt Go.RowKit Go.Deep
set_option linter.unusedVariables false
theorem RdI.new7 (W : World) (t : TypeId) (x : Ly) (g : Nat) (hg : g = W.heap.size) : RdI (W.alloc (.cells #[.int .i64 x.form, .int .i64 x.ice, .int .i64 x.water, .int .i64 x.dens, .int .i64 x.deg, .int .i64 x.hard, .int .i64 x.age] t)) (some ⟨g, 0, none⟩) (layL x) := fun k y hy => by
  subst hg
  refine ⟨_, 0, rfl, (cell_of_row _ _ _ _ _ (0, 0) (heap_alloc_new W _)).trans ?_⟩
  match k, hy with
  | 0, hy | 1, hy | 2, hy | 3, hy | 4, hy | 5, hy | 6, hy =>
    have e := Option.some.inj hy
    subst e
    rfl
  | k + 7, hy => simp [layL] at hy
set_option maxHeartbeats 1000000 in
theorem l03Text_any (A : Option Addr) (c : Nat) (ls : List Ly) (w : World) (hr : RdL w A ls) (V : VL ls) :
    Calls Tryd.prog 44 #[.slice A ls.length c] w fun e w' => e = .returned (.string (profS ls)) ∧ Below w.heap.size w w' := by
  have h16 := V.len
  by_cases h0 : ls.length = 0
  · obtain rfl : ls = [] := List.length_eq_zero_iff.1 h0
    clear h0
    go_enter Tryd.func44, Tryd.ntmps44
    go_wp2_with fail
    go_ret
    exact ⟨rfl, Below.refl _ _⟩
  have hpos : 0 < ls.length := by omega
  have hz : ((ls.length : Int) == 0) = false := by rw [beq_eq_false_iff_ne]; omega
  have F := Lib.hid (profS_ne hpos)
  clear h0
  have J0 := Lib.hid (profJ_0 ls)
  go_enter Tryd.func44, Tryd.ntmps44
  go_wp2_with fail
  go_loopw [3, 4] (fun o i wr => ∃ k : Nat, k ≤ ls.length ∧ i = .int .i64 k ∧ o = .string (profJ ls k) ∧ Below w.heap.size w wr) (fun _ i _ => ls.length - (intOf i).toNat)
  case atStart => exact ⟨0, Nat.zero_le _, rfl, by rw [J0.out], Below.refl _ _⟩
  case round =>
    obtain ⟨k, hk, rfl, rfl, hb⟩ := hrel
    have hsz := profJ_size ls V k hk
    by_cases hlt : k < ls.length
    · obtain ⟨g, o, rfl, hx⟩ := (hr.below hb).at_ k hlt
      obtain ⟨c0, c1, c2, c3, c4, c5, c6⟩ := hx
      have hB := Lib.hid (V.get k hlt)
      have hds := layS_size hB.out
      have z4 : (⟨#[59]⟩ : ByteArray).size ≤ 1 := by decide
      by_cases hk0 : k = 0
      · subst hk0
        have HS := Lib.hid ((profJ_1 hpos).trans (nil_app' (layS ls[0])).symm)
        have z5 : (⟨#[]⟩ : ByteArray).size ≤ 1 := by decide
        rw [J0.out]
        clear hsz
        rw [Nat.zero_mul, Nat.add_zero] at c0 c1 c2 c3 c4 c5 c6
        go_wp2_with fail
        clear c0 c1 c2 c3 c4 c5 c6
        refine (l01List_any (some ⟨_, 0, none⟩) 7 (layL ls[0]) _ (RdI.new7 _ _ _ _ (by simp)) (layL_fits hB.out)).mono ?_
        rintro e w1 ⟨rfl, hb1⟩
        rw [show listS (layL ls[0]) = layS ls[0] from rfl]
        go_wp2_with fail
        go_roundw
        case rel => exact ⟨1, by omega, rfl, by rw [HS.out], bl_trans (bl_alloc (bl_alloc hb _) _) hb1⟩
        case measure => simp [intOf]; omega
      · have HS := Lib.hid (profJ_s (by omega) hlt)
        have hk1 : decide ((0 : Int) < (k : Int)) = true := by simp; omega
        go_wp2_with fail
        clear c0 c1 c2 c3 c4 c5 c6
        refine (l01List_any (some ⟨_, 0, none⟩) 7 (layL ls[k]) _ (RdI.new7 _ _ _ _ (by simp)) (layL_fits hB.out)).mono ?_
        rintro e w1 ⟨rfl, hb1⟩
        rw [show listS (layL ls[k]) = layS ls[k] from rfl]
        go_wp2_with fail
        go_roundw
        case rel => exact ⟨k + 1, by omega, by go_num, by rw [HS.out], bl_trans (bl_alloc (bl_alloc hb _) _) hb1⟩
        case measure => simp [intOf]; omega
    · obtain rfl : k = ls.length := by omega
      go_wp2_with fail
      go_ret
      exact ⟨(ret_str F.out).symm, hb⟩
theorem specProfT_any (A : Option Addr) (c : Nat) (ls : List Ly) (w : World) (hr : RdL w A ls) (hn : ls.length ≤ 1048576) :
    Calls Tryd.prog 19 #[.slice A ls.length c] w fun e w' => e = .returned (.string (profT ls)) ∧ Below w.heap.size w w' := by
  rcases hf : okL ls with _ | _
  · have F := Lib.hid (profT_f hf)
    go_enter Tryd.func19, Tryd.ntmps19
    go_wp2_with (go_at_call 43; refine (l03Ok_any A c ls _ hr hn).mono ?_; rintro e w' ⟨rfl, rfl⟩)
    go_ret
    exact ⟨(ret_str F.out).symm, Below.refl _ _⟩
  · have F := Lib.hid (profT_t hf)
    have HF := Lib.hid hf
    go_enter Tryd.func19, Tryd.ntmps19
    go_wp2_with (go_at_call 43; refine (l03Ok_any A c ls _ hr hn).mono ?_; rintro e w' ⟨rfl, rfl⟩)
    refine (l03Text_any _ _ _ _ hr (VL.of_ok HF.out)).mono ?_
    rintro e w1 ⟨rfl, hb1⟩
    go_wp2_with fail
    go_ret
    exact ⟨(ret_str F.out).symm, hb1⟩
set_option maxHeartbeats 1000000 in
theorem implProfT_any (A : Option Addr) (c : Nat) (ls : List Ly) (w : World) (hr : RdL w A ls) (hn : ls.length ≤ 1048576) (ht : TabOk w) :
    Calls Tryd.prog 21 #[.slice A ls.length c] w fun e w' => e = .returned (.string (profT ls)) ∧ Below w.heap.size w w' := by
  have HT := Lib.hid ht
  clear ht
  rcases hf : okL ls with _ | _
  · have F := Lib.hid (profT_f hf)
    go_enter Tryd.func21, Tryd.ntmps21
    go_wp2_with (go_at_call 46; refine (validProfile_any A c ls _ hr hn).mono ?_; rintro e w1 ⟨rfl, hb1⟩)
    go_ret
    exact ⟨(ret_str F.out).symm, hb1⟩
  have V := VL.of_ok hf
  have F := Lib.hid (profT_t hf)
  have h16 := V.len
  by_cases h0 : ls.length = 0
  · obtain rfl : ls = [] := List.length_eq_zero_iff.1 h0
    clear h0
    go_enter Tryd.func21, Tryd.ntmps21
    go_wp2_with (go_at_call 46; refine (validProfile_any A c [] _ hr hn).mono ?_; rintro e w1 ⟨rfl, hb1⟩)
    go_ret
    exact ⟨(ret_str F.out).symm, hb1⟩
  have hpos : 0 < ls.length := by omega
  have hz : ((ls.length : Int) == 0) = false := by rw [beq_eq_false_iff_ne]; omega
  have F2 := Lib.hid (F.out.trans (profS_ne hpos))
  have HV := Lib.hid V
  clear h0 F V
  go_enter Tryd.func21, Tryd.ntmps21
  go_wp2_with (go_at_call 46; refine (validProfile_any A c ls _ hr hn).mono ?_; rintro e w1 ⟨rfl, hb1⟩)
  have HO0 := Lib.hid (OwnT.nil w1 w1.heap.size)
  have HB0 := Lib.hid (Below.refl w1.heap.size w1)
  have hr1 := Lib.hid (hr.below hb1)
  have HT1 := Lib.hid (HT.out.on hb1)
  clear hf
  go_loopw [3, 16] (fun s i wr => ∃ (k : Nat) (A : Option Addr) (c : Nat), k ≤ ls.length ∧ i = .int .i64 k ∧ s = .slice A k c ∧ k ≤ c ∧ OwnT wr w1.heap.size (.slice A k c) (laysS ls k) ∧ Below w1.heap.size w1 wr) (fun _ i _ => ls.length - (intOf i).toNat)
  case atStart => exact ⟨0, _, _, Nat.zero_le _, rfl, rfl, Nat.le_refl _, HO0.out, HB0.out⟩
  case round =>
    obtain ⟨k, A1, c1, hk, rfl, rfl, hkc, ho, hb⟩ := hrel
    have HO := Lib.hid ho
    clear ho
    by_cases hlt : k < ls.length
    · obtain ⟨g, o, rfl, hx⟩ := (hr1.out.below hb).at_ k hlt
      obtain ⟨c0, c1', c2, c3, c4, c5, c6⟩ := hx
      have hB := Lib.hid (HV.out.get k hlt)
      have HS := Lib.hid (laysS_s hlt)
      have HL := Lib.hid (laysS_len (ls := ls) hk)
      go_wp2_with fail
      clear c0 c1' c2 c3 c4 c5 c6
      have hb' := bl_alloc (bl_alloc hb (.cells #[.int .i64 ls[k].form, .int .i64 ls[k].ice, .int .i64 ls[k].water, .int .i64 ls[k].dens, .int .i64 ls[k].deg, .int .i64 ls[k].hard, .int .i64 ls[k].age] 64)) (.cells #[.int .i64 ls[k].form, .int .i64 ls[k].ice, .int .i64 ls[k].water, .int .i64 ls[k].dens, .int .i64 ls[k].deg, .int .i64 ls[k].hard, .int .i64 ls[k].age] 2)
      refine (implListT_any (some ⟨_, 0, none⟩) 7 (layL ls[k]) _ (RdI.new7 _ _ _ _ (by simp)) (by simp [layL]) (HT1.out.on hb')).mono ?_
      rintro e w2 ⟨rfl, hb2⟩
      rw [layS_t hB.out]
      have hb02 := bl_trans hb' hb2
      have HO2 := Lib.hid (((HO.out.alloc _).alloc _).below hb2)
      clear hb'
      go_wp2_with (at_builtin; refine wpList_app_str _ rfl (.tmp 20) (.tmp 37) rfl w1.heap.size _ (laysS ls k) rfl (HO2.out.alloc _) w2.heap.size (layS ls[k]) rfl (new1s _ _ _) (by rw [HL.out]; omega) (bl_alloc hb02 _).size ?_; intro v' w3 ho3 hg3)
      have hb03 : Below w1.heap.size w1 w3 := Below.grown (bl_alloc hb02 _) hg3 (bl_alloc hb02 _).size (HO2.out.ge)
      rw [← HS.out] at ho3
      obtain ⟨A2, c2, rfl, hc2⟩ := ho3.form
      rw [laysS_len (by omega)] at ho3 hc2
      rw [laysS_len (by omega)]
      go_roundw
      case rel => exact ⟨k + 1, A2, c2, by omega, by go_num, rfl, hc2, ho3, hb03⟩
      case measure => simp [intOf]; omega
    · obtain rfl : k = ls.length := by omega
      obtain ⟨g, rfl, hg, _, hcells⟩ := HO.out.at_ (by rw [laysS_len (Nat.le_refl _)]; exact hpos)
      have HC := Lib.hid hcells
      clear hcells
      have HJ := Lib.hid (laysS_join ls ls.length)
      have hjl := profL_size ls HV.out ls.length (Nat.le_refl _)
      have HCALL : Hid (Calls Tryd.prog 47 #[.slice (some ⟨g, 0, none⟩) ls.length c1, .string ⟨#[59]⟩] wr fun e w' => e = .returned (.string (profJ ls ls.length)) ∧ Below wr.heap.size wr w') := by
        have hl := laysS_len (ls := ls) (Nat.le_refl ls.length)
        have := Tryd.strings_Join g 0 c1 (laysS ls ls.length) ⟨#[59]⟩ wr HC.out hg (by omega) (by omega) (by
          show (Lib.join ((laysS ls ls.length).map (·.data.toList)) [59]).length ≤ _
          rw [HJ.out]; omega)
        rw [hl] at this
        refine Lib.hid (this.mono fun e w' h => ⟨h.1.trans ?_, h.2⟩)
        refine ret_str ?_
        show (⟨(Lib.join ((laysS ls ls.length).map (·.data.toList)) [59]).toArray⟩ : ByteArray) = _
        rw [HJ.out]
        rfl
      clear hjl
      go_wp2_with fail
      refine (HCALL.out).mono ?_
      rintro e w2 ⟨rfl, hb2⟩
      go_wp2_with fail
      go_ret
      exact ⟨(ret_str F2.out).symm, bl_trans hb1 (bl_trans hb hb2)⟩
end Go.Proofs.YtcpdipopajhajaaDoor
