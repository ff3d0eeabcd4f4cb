/- A text read as a number with places: the contract of the program's function (cases printed by mk_fix.py). No condition. -/
import Derived.Test.YtjmojlinfjiacaaDoorFixR
import Derived.Test.YtjmojlinfjiacaaDoorFix
import Derived.Test.YtjmojlinfjiacaaDoorNumI
import Derived.Test.YtjmojlinfjiacaaDoorShelf
namespace Go.Proofs.YtjmojlinfjiacaaDoor
open Go.ChangeShapes Go.WideShapes Go.ChangeAt Go.RowKit
set_option linter.unusedVariables false
theorem replaceK_le (k : Nat) : ∀ (s : List UInt8), (Lib.replaceK [46] [] k s).length ≤ s.length := by
  induction k with
  | zero => intro s; exact Nat.le_refl _
  | succ k ih =>
    intro s
    rw [Lib.replaceK]
    split
    · exact Nat.le_refl _
    · have := ih (s.drop ((Lib.index s [46]).toNat + 1))
      simp only [List.length_append, List.length_nil, List.length_take, List.length_drop, List.length_cons, Nat.zero_add] at this ⊢
      omega
theorem replace_le (s : List UInt8) : (Lib.replace s [46] [] 1).length ≤ s.length := by
  unfold Lib.replace
  rw [if_neg (by decide)]
  exact replaceK_le _ _
theorem body_le (l : List UInt8) : (bodyL l).length ≤ l.length := by
  unfold bodyL
  split
  · simp
  · exact Nat.le_refl _
theorem dgL_len (l : List UInt8) : (dgL l).length ≤ l.length ∨ (dgL l).length ≤ 1 := by
  have h1 := body_le l
  have h2 := replace_le (bodyL l)
  have h3 : (Lib.trimLeftB (Lib.replace (bodyL l) [46] [] 1) 48).length ≤ (Lib.replace (bodyL l) [46] [] 1).length := (List.dropWhile_sublist _).length_le
  unfold dgL orZero
  split
  · exact .inr (Nat.le_refl _)
  · exact .inl (by omega)
theorem rn_bd (l : List UInt8) : -1000000000000000000 < rnV l ∧ rnV l < 1000000000000000000 := by
  rcases h : numB l with _ | _
  · rw [rn_f h]; omega
  · rw [rn_t h]
    unfold numB at h
    simp only [Bool.and_eq_true, decide_eq_true_eq] at h
    obtain ⟨⟨_, h18, _⟩, ha⟩ := h
    obtain ⟨_, b0, b1⟩ := digW_small _ ha h18
    have hp := Nat.pow_le_pow_right (n := 10) (by omega) h18
    rw [show (10 : Int) ^ (bodyL l).length = ((10 ^ (bodyL l).length : Nat) : Int) from by push_cast; rfl] at b1
    unfold numV
    split <;> omega
def rpS (s : ByteArray) : ByteArray := ⟨(Lib.replace (bodyL s.data.toList) [46] [] 1).toArray⟩
def dzS (s : ByteArray) : ByteArray := ⟨(Lib.trimLeftB (Lib.replace (bodyL s.data.toList) [46] [] 1) 48).toArray⟩
def dgS (s : ByteArray) : ByteArray := ⟨(dgL s.data.toList).toArray⟩
theorem dgS_size (s : ByteArray) : (dgS s).size ≤ s.size ∨ (dgS s).size ≤ 1 := by
  have := dgL_len s.data.toList
  rw [lst_len] at this
  show (dgL s.data.toList).toArray.size ≤ _ ∨ (dgL s.data.toList).toArray.size ≤ _
  rw [List.size_toArray]
  exact this
theorem dz_0 {s : ByteArray} (h : dzS s = ⟨#[]⟩) : dgS s = ⟨#[48]⟩ := by
  have hx : Lib.trimLeftB (Lib.replace (bodyL s.data.toList) [46] [] 1) 48 = [] := congrArg (fun x => x.data.toList) h
  unfold dgS dgL
  rw [hx]
  rfl
theorem dz_1 {s : ByteArray} (h : ¬ dzS s = ⟨#[]⟩) : dgS s = dzS s := by
  have hx : ¬ Lib.trimLeftB (Lib.replace (bodyL s.data.toList) [46] [] 1) 48 = [] := fun e => h (by unfold dzS; rw [e])
  unfold dgS dgL orZero
  rw [if_neg hx]
  rfl
theorem hp_t {l : List UInt8} (h : l.head? = some 45) : Lib.hasPrefix l [45] = true := by
  cases l with
  | nil => simp at h
  | cons c r => simp at h; subst h; simp [Lib.hasPrefix]
theorem hp_f {l : List UInt8} (h : ¬ l.head? = some 45) : Lib.hasPrefix l [45] = false := by
  cases l with
  | nil => rfl
  | cons c r =>
    have hc : ¬ c = 45 := by simpa using h
    have : ((45 : UInt8) == c) = false := beq_eq_false_iff_ne.2 (fun e => hc e.symm)
    simp [Lib.hasPrefix, List.isPrefixOf, this]
theorem em_t {s : ByteArray} (h : s = ⟨#[]⟩) : s.toList.isEmpty = true := by subst h; simp
theorem em_f {s : ByteArray} (h : ¬ s = ⟨#[]⟩) : s.toList.isEmpty = false := by
  have := beq_f h
  cases e : s.toList with
  | nil => rw [e] at this; simp at this
  | cons a b => rfl
theorem xB_e {s : ByteArray} {p : Int} (h : s = ⟨#[]⟩) : xB s p = false := by subst h; rfl
theorem xB_n {s : ByteArray} {p : Int} (h : numB (dgL s.data.toList) = false) : xB s p = false := by unfold xB; rw [h]; simp
theorem xB_x {s : ByteArray} {p : Int} (h : ¬ fixT (fxVal s.data.toList) p = s) : xB s p = false := by unfold xB; rw [decide_eq_false h]; simp
theorem xB_y {s : ByteArray} {p : Int} (he : ¬ s = ⟨#[]⟩) (hn : numB (dgL s.data.toList) = true) (h : fixT (fxVal s.data.toList) p = s) : xB s p = true := by
  have hne : s.data.toList ≠ [] := fun e => he (eq_of_list e)
  unfold xB
  rw [hn, decide_eq_true h, decide_eq_true hne]
  rfl
set_option maxHeartbeats 4000000 in
theorem implFixR_any (s : ByteArray) (p : Int) (w : World) (hs : s.size ≤ 1048576) (ht : TabOk w) (h1 : SynOk w) (h2 : RngOk w) (hm : ∃ m, w.cell? ⟨2, 0, none⟩ = some (.int .i64 m)) :
    Calls Tryd.prog 14 #[.string s, .int .i64 p] w fun e w' => e = .returned (.tuple #[.int .i64 (xV s p), .bool (xB s p)]) ∧ Below w.heap.size w w' := by
  obtain ⟨m, hm⟩ := hm
  have hbl : (bodyS s).size ≤ s.size := by rw [bodyS_size, ← lst_len s]; exact body_le _
  have HR : Hid (Calls Tryd.prog 28 #[.string (bodyS s), .string ⟨#[46]⟩, .string ⟨#[]⟩, .int .i64 1] w fun e w' => e = .returned (.string (rpS s)) ∧ Below w.heap.size w w') :=
    Lib.hid (Tryd.strings_Replace (bodyS s) ⟨#[46]⟩ ⟨#[]⟩ 1 m w (by omega) hm (by decide) (by show _ + _ * 0 ≤ _; omega))
  have HZ : Hid (∀ W : World, Calls Tryd.prog 27 #[.string (rpS s), .string ⟨#[48]⟩] W fun e w' => e = .returned (.string (dzS s)) ∧ w' = W) :=
    Lib.hid fun W => Tryd.strings_TrimLeft_one (rpS s) 48 (by decide) W
  have HPR : Hid (∀ W : World, Calls Tryd.prog 29 #[.string s, .string ⟨#[45]⟩] W fun e w' => e = .returned (.bool (Lib.hasPrefix s.data.toList [45])) ∧ w' = W) :=
    Lib.hid fun W => Tryd.strings_HasPrefix s ⟨#[45]⟩ W
  have hds := dgS_size s
  obtain ⟨v, hv⟩ : ∃ v, v = rnV (dgL s.data.toList) := ⟨_, rfl⟩
  obtain ⟨ok, hok⟩ : ∃ ok, ok = numB (dgL s.data.toList) := ⟨_, rfl⟩
  obtain ⟨v0, v1⟩ := rn_bd (dgL s.data.toList)
  rw [← hv] at v0 v1
  have HN : ∀ W : World, TabOk W → SynOk W → RngOk W → Calls Tryd.prog 12 #[.string (dgS s)] W fun e w' => e = .returned (.tuple #[.int .i64 v, .bool ok]) ∧ Below W.heap.size W w' := by
    intro W a b c
    rw [hv, hok]
    exact implNum_any (dgS s) W (by omega) a b c
  have HT := Lib.hid ht
  have H1 := Lib.hid h1
  have H2 := Lib.hid h2
  have wN : IntKind.i64.wrap (-v) = -v := by rw [IntKind.wrap_i64]; omega
  have V0 := Lib.hid hv
  have K0 := Lib.hid hok
  clear ht h1 h2 hm hbl hds hv hok
  by_cases hz : dzS s = ⟨#[]⟩
  · have hq : (dzS s).toList.isEmpty = true := em_t hz
    rw [dz_0 hz] at HN
    have HNN := Lib.hid HN
    clear HN hz
    by_cases hh : s.data.toList.head? = some 45
    · have HPX := HPR
      rw [hp_t hh] at HPX
      have hfx : fxVal s.data.toList = -v := by unfold fxVal; rw [if_pos hh, V0.out]
      have HFX := Lib.hid hfx
      clear hh hfx HPR
      by_cases he : s = ⟨#[]⟩
      · have F := Lib.hid (x_f (p := p) (xB_e he))
        have hqe : s.toList.isEmpty = true := em_t he
        clear he
        go_enter Tryd.func14, Tryd.ntmps14
        go_wp2_with (go_at_call 20; refine (trimMinus_any _ _).mono ?_; rintro e w' ⟨rfl, rfl⟩)
        refine HR.out.mono ?_
        rintro e w1 ⟨rfl, hb1⟩
        go_wp2_with (go_at_call 27; refine (HZ.out _).mono ?_; rintro e w' ⟨rfl, rfl⟩)
        refine (HNN.out _ (HT.out.on hb1) (H1.out.on hb1) (H2.out.on hb1)).mono ?_
        rintro e w2 ⟨rfl, hb2⟩
        go_wp2_with (go_at_call 29; refine (HPX.out _).mono ?_; rintro e w' ⟨rfl, rfl⟩)
        go_ret2
        exact ⟨(ret_nb F.out.1 F.out.2).symm, bl_trans hb1 hb2⟩
      · have hqe : s.toList.isEmpty = false := em_f he
        cases ok
        · have F := Lib.hid (x_f (p := p) (xB_n K0.out.symm))
          clear he
          go_enter Tryd.func14, Tryd.ntmps14
          go_wp2_with (go_at_call 20; refine (trimMinus_any _ _).mono ?_; rintro e w' ⟨rfl, rfl⟩)
          refine HR.out.mono ?_
          rintro e w1 ⟨rfl, hb1⟩
          go_wp2_with (go_at_call 27; refine (HZ.out _).mono ?_; rintro e w' ⟨rfl, rfl⟩)
          refine (HNN.out _ (HT.out.on hb1) (H1.out.on hb1) (H2.out.on hb1)).mono ?_
          rintro e w2 ⟨rfl, hb2⟩
          go_wp2_with (go_at_call 29; refine (HPX.out _).mono ?_; rintro e w' ⟨rfl, rfl⟩)
          go_ret2
          exact ⟨(ret_nb F.out.1 F.out.2).symm, bl_trans hb1 hb2⟩
        · by_cases hf : fixT (-v) p = s
          · have F := Lib.hid (x_t (p := p) (xB_y he K0.out.symm (by rw [HFX.out]; exact hf)))
            have hqf : ((fixT (-v) p).toList == s.toList) = true := beq_t hf
            rw [HFX.out] at F
            clear he hf
            go_enter Tryd.func14, Tryd.ntmps14
            go_wp2_with (go_at_call 20; refine (trimMinus_any _ _).mono ?_; rintro e w' ⟨rfl, rfl⟩)
            refine HR.out.mono ?_
            rintro e w1 ⟨rfl, hb1⟩
            go_wp2_with (go_at_call 27; refine (HZ.out _).mono ?_; rintro e w' ⟨rfl, rfl⟩)
            refine (HNN.out _ (HT.out.on hb1) (H1.out.on hb1) (H2.out.on hb1)).mono ?_
            rintro e w2 ⟨rfl, hb2⟩
            go_wp2_with (go_at_call 29; refine (HPX.out _).mono ?_; rintro e w' ⟨rfl, rfl⟩)
            refine (implFix_any _ _ _ (HT.out.on (bl_trans hb1 hb2))).mono ?_
            rintro e w3 ⟨rfl, hb3⟩
            go_wp2_with fail
            go_ret2
            exact ⟨(ret_nb F.out.1 F.out.2).symm, bl_trans (bl_trans hb1 hb2) hb3⟩
          · have F := Lib.hid (x_f (p := p) (xB_x (by rw [HFX.out]; exact hf)))
            have hqf : ((fixT (-v) p).toList == s.toList) = false := beq_f hf
            clear he hf
            go_enter Tryd.func14, Tryd.ntmps14
            go_wp2_with (go_at_call 20; refine (trimMinus_any _ _).mono ?_; rintro e w' ⟨rfl, rfl⟩)
            refine HR.out.mono ?_
            rintro e w1 ⟨rfl, hb1⟩
            go_wp2_with (go_at_call 27; refine (HZ.out _).mono ?_; rintro e w' ⟨rfl, rfl⟩)
            refine (HNN.out _ (HT.out.on hb1) (H1.out.on hb1) (H2.out.on hb1)).mono ?_
            rintro e w2 ⟨rfl, hb2⟩
            go_wp2_with (go_at_call 29; refine (HPX.out _).mono ?_; rintro e w' ⟨rfl, rfl⟩)
            refine (implFix_any _ _ _ (HT.out.on (bl_trans hb1 hb2))).mono ?_
            rintro e w3 ⟨rfl, hb3⟩
            go_wp2_with fail
            go_ret2
            exact ⟨(ret_nb F.out.1 F.out.2).symm, bl_trans (bl_trans hb1 hb2) hb3⟩
    · have HPX := HPR
      rw [hp_f hh] at HPX
      have hfx : fxVal s.data.toList = v := by unfold fxVal; rw [if_neg hh, V0.out]
      have HFX := Lib.hid hfx
      clear hh hfx HPR
      by_cases he : s = ⟨#[]⟩
      · have F := Lib.hid (x_f (p := p) (xB_e he))
        have hqe : s.toList.isEmpty = true := em_t he
        clear he
        go_enter Tryd.func14, Tryd.ntmps14
        go_wp2_with (go_at_call 20; refine (trimMinus_any _ _).mono ?_; rintro e w' ⟨rfl, rfl⟩)
        refine HR.out.mono ?_
        rintro e w1 ⟨rfl, hb1⟩
        go_wp2_with (go_at_call 27; refine (HZ.out _).mono ?_; rintro e w' ⟨rfl, rfl⟩)
        refine (HNN.out _ (HT.out.on hb1) (H1.out.on hb1) (H2.out.on hb1)).mono ?_
        rintro e w2 ⟨rfl, hb2⟩
        go_wp2_with (go_at_call 29; refine (HPX.out _).mono ?_; rintro e w' ⟨rfl, rfl⟩)
        go_ret2
        exact ⟨(ret_nb F.out.1 F.out.2).symm, bl_trans hb1 hb2⟩
      · have hqe : s.toList.isEmpty = false := em_f he
        cases ok
        · have F := Lib.hid (x_f (p := p) (xB_n K0.out.symm))
          clear he
          go_enter Tryd.func14, Tryd.ntmps14
          go_wp2_with (go_at_call 20; refine (trimMinus_any _ _).mono ?_; rintro e w' ⟨rfl, rfl⟩)
          refine HR.out.mono ?_
          rintro e w1 ⟨rfl, hb1⟩
          go_wp2_with (go_at_call 27; refine (HZ.out _).mono ?_; rintro e w' ⟨rfl, rfl⟩)
          refine (HNN.out _ (HT.out.on hb1) (H1.out.on hb1) (H2.out.on hb1)).mono ?_
          rintro e w2 ⟨rfl, hb2⟩
          go_wp2_with (go_at_call 29; refine (HPX.out _).mono ?_; rintro e w' ⟨rfl, rfl⟩)
          go_ret2
          exact ⟨(ret_nb F.out.1 F.out.2).symm, bl_trans hb1 hb2⟩
        · by_cases hf : fixT (v) p = s
          · have F := Lib.hid (x_t (p := p) (xB_y he K0.out.symm (by rw [HFX.out]; exact hf)))
            have hqf : ((fixT (v) p).toList == s.toList) = true := beq_t hf
            rw [HFX.out] at F
            clear he hf
            go_enter Tryd.func14, Tryd.ntmps14
            go_wp2_with (go_at_call 20; refine (trimMinus_any _ _).mono ?_; rintro e w' ⟨rfl, rfl⟩)
            refine HR.out.mono ?_
            rintro e w1 ⟨rfl, hb1⟩
            go_wp2_with (go_at_call 27; refine (HZ.out _).mono ?_; rintro e w' ⟨rfl, rfl⟩)
            refine (HNN.out _ (HT.out.on hb1) (H1.out.on hb1) (H2.out.on hb1)).mono ?_
            rintro e w2 ⟨rfl, hb2⟩
            go_wp2_with (go_at_call 29; refine (HPX.out _).mono ?_; rintro e w' ⟨rfl, rfl⟩)
            refine (implFix_any _ _ _ (HT.out.on (bl_trans hb1 hb2))).mono ?_
            rintro e w3 ⟨rfl, hb3⟩
            go_wp2_with fail
            go_ret2
            exact ⟨(ret_nb F.out.1 F.out.2).symm, bl_trans (bl_trans hb1 hb2) hb3⟩
          · have F := Lib.hid (x_f (p := p) (xB_x (by rw [HFX.out]; exact hf)))
            have hqf : ((fixT (v) p).toList == s.toList) = false := beq_f hf
            clear he hf
            go_enter Tryd.func14, Tryd.ntmps14
            go_wp2_with (go_at_call 20; refine (trimMinus_any _ _).mono ?_; rintro e w' ⟨rfl, rfl⟩)
            refine HR.out.mono ?_
            rintro e w1 ⟨rfl, hb1⟩
            go_wp2_with (go_at_call 27; refine (HZ.out _).mono ?_; rintro e w' ⟨rfl, rfl⟩)
            refine (HNN.out _ (HT.out.on hb1) (H1.out.on hb1) (H2.out.on hb1)).mono ?_
            rintro e w2 ⟨rfl, hb2⟩
            go_wp2_with (go_at_call 29; refine (HPX.out _).mono ?_; rintro e w' ⟨rfl, rfl⟩)
            refine (implFix_any _ _ _ (HT.out.on (bl_trans hb1 hb2))).mono ?_
            rintro e w3 ⟨rfl, hb3⟩
            go_wp2_with fail
            go_ret2
            exact ⟨(ret_nb F.out.1 F.out.2).symm, bl_trans (bl_trans hb1 hb2) hb3⟩
  · have hq : (dzS s).toList.isEmpty = false := em_f hz
    rw [dz_1 hz] at HN
    have HNN := Lib.hid HN
    clear HN hz
    by_cases hh : s.data.toList.head? = some 45
    · have HPX := HPR
      rw [hp_t hh] at HPX
      have hfx : fxVal s.data.toList = -v := by unfold fxVal; rw [if_pos hh, V0.out]
      have HFX := Lib.hid hfx
      clear hh hfx HPR
      by_cases he : s = ⟨#[]⟩
      · have F := Lib.hid (x_f (p := p) (xB_e he))
        have hqe : s.toList.isEmpty = true := em_t he
        clear he
        go_enter Tryd.func14, Tryd.ntmps14
        go_wp2_with (go_at_call 20; refine (trimMinus_any _ _).mono ?_; rintro e w' ⟨rfl, rfl⟩)
        refine HR.out.mono ?_
        rintro e w1 ⟨rfl, hb1⟩
        go_wp2_with (go_at_call 27; refine (HZ.out _).mono ?_; rintro e w' ⟨rfl, rfl⟩)
        refine (HNN.out _ (HT.out.on hb1) (H1.out.on hb1) (H2.out.on hb1)).mono ?_
        rintro e w2 ⟨rfl, hb2⟩
        go_wp2_with (go_at_call 29; refine (HPX.out _).mono ?_; rintro e w' ⟨rfl, rfl⟩)
        go_ret2
        exact ⟨(ret_nb F.out.1 F.out.2).symm, bl_trans hb1 hb2⟩
      · have hqe : s.toList.isEmpty = false := em_f he
        cases ok
        · have F := Lib.hid (x_f (p := p) (xB_n K0.out.symm))
          clear he
          go_enter Tryd.func14, Tryd.ntmps14
          go_wp2_with (go_at_call 20; refine (trimMinus_any _ _).mono ?_; rintro e w' ⟨rfl, rfl⟩)
          refine HR.out.mono ?_
          rintro e w1 ⟨rfl, hb1⟩
          go_wp2_with (go_at_call 27; refine (HZ.out _).mono ?_; rintro e w' ⟨rfl, rfl⟩)
          refine (HNN.out _ (HT.out.on hb1) (H1.out.on hb1) (H2.out.on hb1)).mono ?_
          rintro e w2 ⟨rfl, hb2⟩
          go_wp2_with (go_at_call 29; refine (HPX.out _).mono ?_; rintro e w' ⟨rfl, rfl⟩)
          go_ret2
          exact ⟨(ret_nb F.out.1 F.out.2).symm, bl_trans hb1 hb2⟩
        · by_cases hf : fixT (-v) p = s
          · have F := Lib.hid (x_t (p := p) (xB_y he K0.out.symm (by rw [HFX.out]; exact hf)))
            have hqf : ((fixT (-v) p).toList == s.toList) = true := beq_t hf
            rw [HFX.out] at F
            clear he hf
            go_enter Tryd.func14, Tryd.ntmps14
            go_wp2_with (go_at_call 20; refine (trimMinus_any _ _).mono ?_; rintro e w' ⟨rfl, rfl⟩)
            refine HR.out.mono ?_
            rintro e w1 ⟨rfl, hb1⟩
            go_wp2_with (go_at_call 27; refine (HZ.out _).mono ?_; rintro e w' ⟨rfl, rfl⟩)
            refine (HNN.out _ (HT.out.on hb1) (H1.out.on hb1) (H2.out.on hb1)).mono ?_
            rintro e w2 ⟨rfl, hb2⟩
            go_wp2_with (go_at_call 29; refine (HPX.out _).mono ?_; rintro e w' ⟨rfl, rfl⟩)
            refine (implFix_any _ _ _ (HT.out.on (bl_trans hb1 hb2))).mono ?_
            rintro e w3 ⟨rfl, hb3⟩
            go_wp2_with fail
            go_ret2
            exact ⟨(ret_nb F.out.1 F.out.2).symm, bl_trans (bl_trans hb1 hb2) hb3⟩
          · have F := Lib.hid (x_f (p := p) (xB_x (by rw [HFX.out]; exact hf)))
            have hqf : ((fixT (-v) p).toList == s.toList) = false := beq_f hf
            clear he hf
            go_enter Tryd.func14, Tryd.ntmps14
            go_wp2_with (go_at_call 20; refine (trimMinus_any _ _).mono ?_; rintro e w' ⟨rfl, rfl⟩)
            refine HR.out.mono ?_
            rintro e w1 ⟨rfl, hb1⟩
            go_wp2_with (go_at_call 27; refine (HZ.out _).mono ?_; rintro e w' ⟨rfl, rfl⟩)
            refine (HNN.out _ (HT.out.on hb1) (H1.out.on hb1) (H2.out.on hb1)).mono ?_
            rintro e w2 ⟨rfl, hb2⟩
            go_wp2_with (go_at_call 29; refine (HPX.out _).mono ?_; rintro e w' ⟨rfl, rfl⟩)
            refine (implFix_any _ _ _ (HT.out.on (bl_trans hb1 hb2))).mono ?_
            rintro e w3 ⟨rfl, hb3⟩
            go_wp2_with fail
            go_ret2
            exact ⟨(ret_nb F.out.1 F.out.2).symm, bl_trans (bl_trans hb1 hb2) hb3⟩
    · have HPX := HPR
      rw [hp_f hh] at HPX
      have hfx : fxVal s.data.toList = v := by unfold fxVal; rw [if_neg hh, V0.out]
      have HFX := Lib.hid hfx
      clear hh hfx HPR
      by_cases he : s = ⟨#[]⟩
      · have F := Lib.hid (x_f (p := p) (xB_e he))
        have hqe : s.toList.isEmpty = true := em_t he
        clear he
        go_enter Tryd.func14, Tryd.ntmps14
        go_wp2_with (go_at_call 20; refine (trimMinus_any _ _).mono ?_; rintro e w' ⟨rfl, rfl⟩)
        refine HR.out.mono ?_
        rintro e w1 ⟨rfl, hb1⟩
        go_wp2_with (go_at_call 27; refine (HZ.out _).mono ?_; rintro e w' ⟨rfl, rfl⟩)
        refine (HNN.out _ (HT.out.on hb1) (H1.out.on hb1) (H2.out.on hb1)).mono ?_
        rintro e w2 ⟨rfl, hb2⟩
        go_wp2_with (go_at_call 29; refine (HPX.out _).mono ?_; rintro e w' ⟨rfl, rfl⟩)
        go_ret2
        exact ⟨(ret_nb F.out.1 F.out.2).symm, bl_trans hb1 hb2⟩
      · have hqe : s.toList.isEmpty = false := em_f he
        cases ok
        · have F := Lib.hid (x_f (p := p) (xB_n K0.out.symm))
          clear he
          go_enter Tryd.func14, Tryd.ntmps14
          go_wp2_with (go_at_call 20; refine (trimMinus_any _ _).mono ?_; rintro e w' ⟨rfl, rfl⟩)
          refine HR.out.mono ?_
          rintro e w1 ⟨rfl, hb1⟩
          go_wp2_with (go_at_call 27; refine (HZ.out _).mono ?_; rintro e w' ⟨rfl, rfl⟩)
          refine (HNN.out _ (HT.out.on hb1) (H1.out.on hb1) (H2.out.on hb1)).mono ?_
          rintro e w2 ⟨rfl, hb2⟩
          go_wp2_with (go_at_call 29; refine (HPX.out _).mono ?_; rintro e w' ⟨rfl, rfl⟩)
          go_ret2
          exact ⟨(ret_nb F.out.1 F.out.2).symm, bl_trans hb1 hb2⟩
        · by_cases hf : fixT (v) p = s
          · have F := Lib.hid (x_t (p := p) (xB_y he K0.out.symm (by rw [HFX.out]; exact hf)))
            have hqf : ((fixT (v) p).toList == s.toList) = true := beq_t hf
            rw [HFX.out] at F
            clear he hf
            go_enter Tryd.func14, Tryd.ntmps14
            go_wp2_with (go_at_call 20; refine (trimMinus_any _ _).mono ?_; rintro e w' ⟨rfl, rfl⟩)
            refine HR.out.mono ?_
            rintro e w1 ⟨rfl, hb1⟩
            go_wp2_with (go_at_call 27; refine (HZ.out _).mono ?_; rintro e w' ⟨rfl, rfl⟩)
            refine (HNN.out _ (HT.out.on hb1) (H1.out.on hb1) (H2.out.on hb1)).mono ?_
            rintro e w2 ⟨rfl, hb2⟩
            go_wp2_with (go_at_call 29; refine (HPX.out _).mono ?_; rintro e w' ⟨rfl, rfl⟩)
            refine (implFix_any _ _ _ (HT.out.on (bl_trans hb1 hb2))).mono ?_
            rintro e w3 ⟨rfl, hb3⟩
            go_wp2_with fail
            go_ret2
            exact ⟨(ret_nb F.out.1 F.out.2).symm, bl_trans (bl_trans hb1 hb2) hb3⟩
          · have F := Lib.hid (x_f (p := p) (xB_x (by rw [HFX.out]; exact hf)))
            have hqf : ((fixT (v) p).toList == s.toList) = false := beq_f hf
            clear he hf
            go_enter Tryd.func14, Tryd.ntmps14
            go_wp2_with (go_at_call 20; refine (trimMinus_any _ _).mono ?_; rintro e w' ⟨rfl, rfl⟩)
            refine HR.out.mono ?_
            rintro e w1 ⟨rfl, hb1⟩
            go_wp2_with (go_at_call 27; refine (HZ.out _).mono ?_; rintro e w' ⟨rfl, rfl⟩)
            refine (HNN.out _ (HT.out.on hb1) (H1.out.on hb1) (H2.out.on hb1)).mono ?_
            rintro e w2 ⟨rfl, hb2⟩
            go_wp2_with (go_at_call 29; refine (HPX.out _).mono ?_; rintro e w' ⟨rfl, rfl⟩)
            refine (implFix_any _ _ _ (HT.out.on (bl_trans hb1 hb2))).mono ?_
            rintro e w3 ⟨rfl, hb3⟩
            go_wp2_with fail
            go_ret2
            exact ⟨(ret_nb F.out.1 F.out.2).symm, bl_trans (bl_trans hb1 hb2) hb3⟩
end Go.Proofs.YtjmojlinfjiacaaDoor
