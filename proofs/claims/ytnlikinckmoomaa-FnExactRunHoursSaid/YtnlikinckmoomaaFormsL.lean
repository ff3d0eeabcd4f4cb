/- The forms of the next hour, all layers: the contracts of the program's and of the reference's ChangeForms and what they call. -/
import Derived.Test.YtnlikinckmoomaaForms
import Derived.Test.YtnlikinckmoomaaSettleP
namespace Go.Proofs.Ytnlikinckmoomaa
open Go.ChangeShapes Go.WideShapes Go.ChangeAt Go.RowKit Go.Joins Go.Deep
set_option linter.unusedVariables false
def formAt (ls : List Ly) (k : Nat) : Ly := (ls.getD k z7).put 0 (nextF (ls.getD k z7) (steepF ls k))
def formsL (ls : List Ly) : List Ly := (List.range ls.length).map (formAt ls)
theorem formsL_len (ls : List Ly) : (formsL ls).length = ls.length := by simp [formsL]
theorem formAt_eq {ls : List Ly} {k : Nat} (h : k < ls.length) : formAt ls k = ls[k].put 0 (nextF ls[k] (steepF ls k)) := by
  unfold formAt
  rw [List.getD_eq_getElem?_getD, List.getElem?_eq_getElem h]
  rfl
theorem formsL_snoc {ls : List Ly} {k : Nat} (h : k < ls.length) : (formsL ls).take (k + 1) = (formsL ls).take k ++ [ls[k].put 0 (nextF ls[k] (steepF ls k))] := by
  rw [List.take_succ_eq_append_getElem (by rw [formsL_len]; exact h)]
  congr 2
  simp only [formsL, List.getElem_map, List.getElem_range]
  exact formAt_eq h
theorem nextF_bd {x : Ly} (h : LyB x) (g : Int) : 1 ≤ nextF x g ∧ nextF x g ≤ 6 := by
  have := h.f0
  have := h.f1
  unfold nextF
  (repeat' split) <;> omega
theorem forms_VL {ls : List Ly} (V : VL ls) : VL (formsL ls) := VL.of_at (by rw [formsL_len]; exact V.len) fun k x hx => by
  have hk : k < ls.length := by have := (List.getElem?_eq_some_iff.1 hx).1; rwa [formsL_len] at this
  have e : (formsL ls)[k]? = some (ls[k].put 0 (nextF ls[k] (steepF ls k))) := by simp [formsL, hk, formAt_eq]
  rw [e] at hx
  injection hx with hx
  subst hx
  obtain ⟨n0, n1⟩ := nextF_bd (V.get k hk) (steepF ls k)
  obtain ⟨f0, f1, i0, i1, w0, w1, d0, d1, g0, g1, k0, k1, a0, a1⟩ := V.get k hk
  exact ⟨n0, n1, i0, i1, w0, w1, d0, d1, g0, g1, k0, k1, a0, a1⟩
def FormR (w : World) (A : Option Addr) (ls : List Ly) (i : Value) (wr : World) : Prop := ∃ k : Nat, k ≤ ls.length ∧ i = .int .i64 k ∧ OwnO wr w.heap.size A ((formsL ls).take k ++ ls.drop k) ∧ Below w.heap.size w wr
theorem FormR.next {w wr w2 : World} {g : Nat} {ls : List Ly} {k : Nat} (hlt : k < ls.length) (hBg : w.heap.size ≤ g) (hb : Below w.heap.size w w2) (ho : OwnL w2 g 45 ((formsL ls).take k ++ ls.drop k)) :
    FormR w (some ⟨g, 0, none⟩) ls (.int .i64 ((k + 1 : Nat) : Int)) (w2.setCell ⟨g, k * 7, none⟩ (.int .i64 (nextF ls[k] (steepF ls k)))) := by
  have hln : ((formsL ls).take k).length = k := by rw [List.length_take, formsL_len]; omega
  have hat : ((formsL ls).take k ++ ls.drop k)[k]? = some ls[k] := by
    rw [List.getElem?_append_right (by omega), hln, Nat.sub_self, drop_at ls k hlt]; rfl
  have h := ho.set hat 0 (by omega) (nextF ls[k] (steepF ls k))
  rw [settle_set hlt _ _ hln, ← formsL_snoc hlt] at h
  exact ⟨k + 1, by omega, rfl, .inr ⟨g, rfl, hBg, h⟩, bl_set hb _ _ hBg _⟩
theorem FormR.at_ {wr : World} {B : Nat} {A : Option Addr} {ls : List Ly} {k : Nat} (hlt : k < ls.length) (ho : OwnO wr B A ((formsL ls).take k ++ ls.drop k)) : ∃ g, A = some ⟨g, 0, none⟩ ∧ B ≤ g ∧ OwnL wr g 45 ((formsL ls).take k ++ ls.drop k) ∧ ((formsL ls).take k ++ ls.drop k)[k]? = some ls[k] := by
  have hln : ((formsL ls).take k).length = k := by rw [List.length_take, formsL_len]; omega
  have hat : ((formsL ls).take k ++ ls.drop k)[k]? = some ls[k] := by
    rw [List.getElem?_append_right (by omega), hln, Nat.sub_self, drop_at ls k hlt]; rfl
  rcases ho with ho | ⟨g, rfl, hBg, ho⟩
  · rw [ho] at hat
    simp at hat
  · exact ⟨g, rfl, hBg, ho, hat⟩
theorem FormR.ends {w wr : World} {A : Option Addr} {ls : List Ly} {c : Nat} (ho : OwnO wr w.heap.size A ((formsL ls).take ls.length ++ ls.drop ls.length)) (hb : Below w.heap.size w wr) (hcap : ls.length ≤ c) :
    ∃ A' c', Ending.returned (.slice A ls.length c) = .returned (.slice A' (formsL ls).length c') ∧ (formsL ls).length ≤ c' ∧ OwnO wr w.heap.size A' (formsL ls) ∧ Below w.heap.size w wr :=
  ⟨A, c, by rw [formsL_len], by rw [formsL_len]; exact hcap, by rwa [List.drop_length, List.append_nil, List.take_of_length_le (by rw [formsL_len]; exact Nat.le_refl _)] at ho, hb⟩
theorem l05Forms_any (A : Option Addr) (c : Nat) (ls : List Ly) (w : World) (hr : RdL w A ls) (V : VL ls) :
    Calls Try.prog 57 #[.slice A ls.length c] w fun e w' => ∃ A' c', e = .returned (.slice A' (formsL ls).length c') ∧ (formsL ls).length ≤ c' ∧ OwnO w' w.heap.size A' (formsL ls) ∧ Below w.heap.size w w' := by
  have h16 := V.len
  go_enter Try.func57, Try.ntmps57
  go_wp2_with fail
  refine (l05Own_any A c ls w hr (by omega)).mono ?_
  rintro e w1 ⟨v1, rfl, hs1, hb1⟩
  obtain ⟨A1, c1, rfl, ho1⟩ := hs1.out
  have hcap := hs1.cap
  have h0 : FormR w A1 ls (.int .i64 0) w1 := ⟨0, Nat.zero_le _, rfl, by simpa using ho1, hb1⟩
  go_wp2_with fail
  go_loopw [4] (FormR w A1 ls) (fun i _ => ls.length - (intOf i).toNat)
  case atStart => exact h0
  case round =>
    obtain ⟨k, hk, rfl, ho, hb⟩ := hrel
    clear h0 ho1 hs1 hb1
    by_cases hlt : k < ls.length
    · obtain ⟨g, rfl, hBg, hoL, hat⟩ := FormR.at_ hlt ho
      have HN := Lib.hid (fun w2 hb ho => FormR.next (w := w) (wr := wr) (w2 := w2) (g := g) hlt hBg hb ho)
      have hx := hoL.at_ hat
      have hf0 := hoL.frozen (k * 7)
      have HO := Lib.hid hoL
      have c0 := hx.c0
      have hr1 := hr.below hb
      clear hoL hat hx ho
      go_wp2_with fail
      refine (l05Form_any A c ls k hlt wr hr1 V).mono ?_
      rintro e w2 ⟨rfl, n1, rfl⟩
      go_wp2_with fail
      clear c0 hf0
      go_roundw
      case rel =>
        have h := HN.out (wr.drewN n1) (bl_drewN hb n1) (HO.out.drewN n1)
        exact h
      case measure => (simp [intOf]; try omega)
    · obtain rfl : k = ls.length := by omega
      have HO := Lib.hid ho
      clear ho
      go_wp2_with fail
      go_ret
      exact FormR.ends HO.out hb hcap
set_option maxHeartbeats 4000000 in
theorem changedForms_any (A : Option Addr) (c : Nat) (ls : List Ly) (w : World) (hr : RdL w A ls) (V : VL ls) :
    Calls Try.prog 58 #[.slice A ls.length c] w fun e w' => ∃ A' c', e = .returned (.slice A' (formsL ls).length c') ∧ (formsL ls).length ≤ c' ∧ OwnO w' w.heap.size A' (formsL ls) ∧ Below w.heap.size w w' := by
  have h16 := V.len
  go_enter Try.func58, Try.ntmps58
  go_wp2_with fail
  refine (clone_any A c ls w hr (by omega)).mono ?_
  rintro e w1 ⟨v1, rfl, hs1, hb1⟩
  obtain ⟨A1, c1, rfl, ho1⟩ := hs1.out
  have hcap := hs1.cap
  have h0 : FormR w A1 ls (.int .i64 0) w1 := ⟨0, Nat.zero_le _, rfl, by simpa using ho1, hb1⟩
  go_wp2_with fail
  go_loopw [11] (FormR w A1 ls) (fun i _ => ls.length - (intOf i).toNat)
  case atStart => exact h0
  case round =>
    obtain ⟨k, hk, rfl, ho, hb⟩ := hrel
    clear h0 ho1 hs1 hb1
    by_cases hlt : k < ls.length
    · obtain ⟨g, rfl, hBg, hoL, hat⟩ := FormR.at_ hlt ho
      have HN := Lib.hid (fun w2 hb ho => FormR.next (w := w) (wr := wr) (w2 := w2) (g := g) hlt hBg hb ho)
      have HO := Lib.hid hoL
      have HAT := Lib.hid hat
      have hr1 := hr.below hb
      obtain ⟨g0, o, rfl, hxx⟩ := hr1.at_ k hlt
      have HXX := Lib.hid hxx
      have HR := Lib.hid hr1
      clear hoL hat ho hr1 hxx
      by_cases h3 : k = 0 <;> by_cases h1 : k + 1 < ls.length
      · have HS := Lib.hid (steep_1 h1 hlt h3)
        obtain ⟨b0, b1⟩ := gradF_bd (V.get k hlt) (V.get (k + 1) h1)
        have HGn : Hid (∀ W : World, RdL W (some ⟨g0, o, none⟩) ls → Calls Try.prog 78 #[.slice (some ⟨g0, o, none⟩) ls.length c, .int .i64 (k : Int)] W fun e w' => e = .returned (.int .i64 (gradF ls[k] ls[k + 1])) ∧ Below W.heap.size W w') := Lib.hid fun W h => gradientOf_any _ c ls k h1 hlt W h V
        generalize gradF ls[k] ls[k + 1] = gn at *
        have HIF : Hid ((if (0 : Int) < absI gn then absI gn else 0) = absI gn) := by show _ = _; have := absI_nn gn; split <;> omega
        rw [HS.out] at HN
        generalize ls[k] = x at *
        have K0 : ¬ (0 : Int) < (k : Int) := by omega
        have K1 : (k : Int) < (ls.length : Int) - 1 := by omega
        clear h1 h3 HS
        obtain ⟨c0, c1', c2, c3, c4, c5, c6⟩ := HXX.out
        go_wp2_with fail
        clear c0 c1' c2 c3 c4 c5 c6
        have hN := LyAt.new wr 45 x
        have hbN := bl_alloc (Below.refl wr.heap.size wr) (.cells #[.int .i64 x.form, .int .i64 x.ice, .int .i64 x.water, .int .i64 x.dens, .int .i64 x.deg, .int .i64 x.hard, .int .i64 x.age] 45)
        obtain ⟨wq, hwq⟩ : ∃ wq, wq = wr.alloc (.cells #[.int .i64 x.form, .int .i64 x.ice, .int .i64 x.water, .int .i64 x.dens, .int .i64 x.deg, .int .i64 x.hard, .int .i64 x.age] 45) := ⟨_, rfl⟩
        rw [← hwq] at hN hbN
        rw [← hwq]
        clear hwq
        obtain ⟨p, hp⟩ : ∃ p, p = wr.heap.size := ⟨_, rfl⟩
        rw [← hp] at hN
        rw [← hp]
        clear hp
        have hpl := hN.lt
        have HNN := Lib.hid hN
        clear hN
        refine (HGn.out _ (HR.out.below hbN)).mono ?_
        rintro e w3 ⟨rfl, hb3⟩
        obtain ⟨e0, e1, e2, e3, e4, e5, e6⟩ := (HNN.out.below hb3 hpl).box
        have hif := HIF.out
        go_wp2_with (go_at_call 68; refine (abs_any _ _ (by omega) (by omega)).mono ?_; rintro e w' ⟨rfl, rfl⟩)
        clear hif
        clear e0 e1 e2 e3 e4 e5 e6
        refine (nextForm_any x (absI gn) _).mono ?_
        rintro e wy ⟨rfl, hby⟩
        have hbA : Below wr.heap.size wr wy := bl_trans (bl_trans hbN hb3) hby
        have hO3 := HO.out.below hbA
        have hf0 := hO3.frozen (k * 7)
        have d0 := (hO3.at_ HAT.out).c0
        have HO3 := Lib.hid hO3
        clear hO3
        go_wp2_with fail
        clear d0 hf0
        go_roundw
        case rel =>
          have h := HN.out wy (bl_trans hb hbA) HO3.out
          exact h
        case measure => (simp [intOf]; try omega)
      · have HS := Lib.hid (steep_0 h1 hlt h3)
        rw [HS.out] at HN
        generalize ls[k] = x at *
        have K0 : ¬ (0 : Int) < (k : Int) := by omega
        have K1 : ¬ (k : Int) < (ls.length : Int) - 1 := by omega
        clear h1 h3 HS
        obtain ⟨c0, c1', c2, c3, c4, c5, c6⟩ := HXX.out
        go_wp2_with fail
        clear c0 c1' c2 c3 c4 c5 c6
        have hN := LyAt.new wr 45 x
        have hbN := bl_alloc (Below.refl wr.heap.size wr) (.cells #[.int .i64 x.form, .int .i64 x.ice, .int .i64 x.water, .int .i64 x.dens, .int .i64 x.deg, .int .i64 x.hard, .int .i64 x.age] 45)
        obtain ⟨wq, hwq⟩ : ∃ wq, wq = wr.alloc (.cells #[.int .i64 x.form, .int .i64 x.ice, .int .i64 x.water, .int .i64 x.dens, .int .i64 x.deg, .int .i64 x.hard, .int .i64 x.age] 45) := ⟨_, rfl⟩
        rw [← hwq] at hN hbN
        rw [← hwq]
        clear hwq
        obtain ⟨p, hp⟩ : ∃ p, p = wr.heap.size := ⟨_, rfl⟩
        rw [← hp] at hN
        have hpl := hN.lt
        have HNN := Lib.hid hN
        clear hN
        refine (nextForm_any x (0) _).mono ?_
        rintro e wy ⟨rfl, hby⟩
        have hbA : Below wr.heap.size wr wy := bl_trans (bl_trans hbN (Below.refl _ _)) hby
        have hO3 := HO.out.below hbA
        have hf0 := hO3.frozen (k * 7)
        have d0 := (hO3.at_ HAT.out).c0
        have HO3 := Lib.hid hO3
        clear hO3
        go_wp2_with fail
        clear d0 hf0
        go_roundw
        case rel =>
          have h := HN.out wy (bl_trans hb hbA) HO3.out
          exact h
        case measure => (simp [intOf]; try omega)
      · have HS := Lib.hid (steep_2 h1 hlt h3 (by omega))
        obtain ⟨a0, a1⟩ := gradF_bd (V.get (k - 1) (by omega)) (V.get k hlt)
        have HGp : Hid (∀ W : World, RdL W (some ⟨g0, o, none⟩) ls → Calls Try.prog 78 #[.slice (some ⟨g0, o, none⟩) ls.length c, .int .i64 ((k : Int) - 1)] W fun e w' => e = .returned (.int .i64 (gradF ls[k - 1] ls[k])) ∧ Below W.heap.size W w') := Lib.hid fun W h => by
          have := gradientOf_any (some ⟨g0, o, none⟩) c ls (k - 1) (by omega) (by omega) W h V
          simp only [show k - 1 + 1 = k from by omega] at this
          rwa [show ((k - 1 : Nat) : Int) = (k : Int) - 1 from by omega] at this
        obtain ⟨b0, b1⟩ := gradF_bd (V.get k hlt) (V.get (k + 1) h1)
        have HGn : Hid (∀ W : World, RdL W (some ⟨g0, o, none⟩) ls → Calls Try.prog 78 #[.slice (some ⟨g0, o, none⟩) ls.length c, .int .i64 (k : Int)] W fun e w' => e = .returned (.int .i64 (gradF ls[k] ls[k + 1])) ∧ Below W.heap.size W w') := Lib.hid fun W h => gradientOf_any _ c ls k h1 hlt W h V
        generalize gradF ls[k - 1] ls[k] = gp at *
        generalize gradF ls[k] ls[k + 1] = gn at *
        have HIF : Hid ((if absI gp < absI gn then absI gn else absI gp) = maxI (absI gp) (absI gn)) := by show _ = _; unfold maxI; split <;> split <;> omega
        rw [HS.out] at HN
        generalize ls[k] = x at *
        have K0 : (0 : Int) < (k : Int) := by omega
        have K1 : (k : Int) < (ls.length : Int) - 1 := by omega
        clear h1 h3 HS
        obtain ⟨c0, c1', c2, c3, c4, c5, c6⟩ := HXX.out
        go_wp2_with fail
        clear c0 c1' c2 c3 c4 c5 c6
        have hN := LyAt.new wr 45 x
        have hbN := bl_alloc (Below.refl wr.heap.size wr) (.cells #[.int .i64 x.form, .int .i64 x.ice, .int .i64 x.water, .int .i64 x.dens, .int .i64 x.deg, .int .i64 x.hard, .int .i64 x.age] 45)
        obtain ⟨wq, hwq⟩ : ∃ wq, wq = wr.alloc (.cells #[.int .i64 x.form, .int .i64 x.ice, .int .i64 x.water, .int .i64 x.dens, .int .i64 x.deg, .int .i64 x.hard, .int .i64 x.age] 45) := ⟨_, rfl⟩
        rw [← hwq] at hN hbN
        rw [← hwq]
        clear hwq
        obtain ⟨p, hp⟩ : ∃ p, p = wr.heap.size := ⟨_, rfl⟩
        rw [← hp] at hN
        rw [← hp]
        clear hp
        have hpl := hN.lt
        have HNN := Lib.hid hN
        clear hN
        refine (HGp.out wq (HR.out.below hbN)).mono ?_
        rintro e w2 ⟨rfl, hb2⟩
        go_wp2_with (go_at_call 68; refine (abs_any _ _ (by omega) (by omega)).mono ?_; rintro e w' ⟨rfl, rfl⟩)
        refine (HGn.out _ (HR.out.below (bl_trans hbN hb2))).mono ?_
        rintro e w3 ⟨rfl, hb3⟩
        have hb23 := bl_trans hb2 hb3
        obtain ⟨e0, e1, e2, e3, e4, e5, e6⟩ := (HNN.out.below hb23 hpl).box
        have hif := HIF.out
        go_wp2_with (go_at_call 68; refine (abs_any _ _ (by omega) (by omega)).mono ?_; rintro e w' ⟨rfl, rfl⟩)
        clear hif
        clear e0 e1 e2 e3 e4 e5 e6
        refine (nextForm_any x (maxI (absI gp) (absI gn)) _).mono ?_
        rintro e wy ⟨rfl, hby⟩
        have hbA : Below wr.heap.size wr wy := bl_trans (bl_trans hbN hb23) hby
        have hO3 := HO.out.below hbA
        have hf0 := hO3.frozen (k * 7)
        have d0 := (hO3.at_ HAT.out).c0
        have HO3 := Lib.hid hO3
        clear hO3
        go_wp2_with fail
        clear d0 hf0
        go_roundw
        case rel =>
          have h := HN.out wy (bl_trans hb hbA) HO3.out
          exact h
        case measure => (simp [intOf]; try omega)
      · have HS := Lib.hid (steep_3 h1 hlt h3 (by omega))
        obtain ⟨a0, a1⟩ := gradF_bd (V.get (k - 1) (by omega)) (V.get k hlt)
        have HGp : Hid (∀ W : World, RdL W (some ⟨g0, o, none⟩) ls → Calls Try.prog 78 #[.slice (some ⟨g0, o, none⟩) ls.length c, .int .i64 ((k : Int) - 1)] W fun e w' => e = .returned (.int .i64 (gradF ls[k - 1] ls[k])) ∧ Below W.heap.size W w') := Lib.hid fun W h => by
          have := gradientOf_any (some ⟨g0, o, none⟩) c ls (k - 1) (by omega) (by omega) W h V
          simp only [show k - 1 + 1 = k from by omega] at this
          rwa [show ((k - 1 : Nat) : Int) = (k : Int) - 1 from by omega] at this
        generalize gradF ls[k - 1] ls[k] = gp at *
        rw [HS.out] at HN
        generalize ls[k] = x at *
        have K0 : (0 : Int) < (k : Int) := by omega
        have K1 : ¬ (k : Int) < (ls.length : Int) - 1 := by omega
        clear h1 h3 HS
        obtain ⟨c0, c1', c2, c3, c4, c5, c6⟩ := HXX.out
        go_wp2_with fail
        clear c0 c1' c2 c3 c4 c5 c6
        have hN := LyAt.new wr 45 x
        have hbN := bl_alloc (Below.refl wr.heap.size wr) (.cells #[.int .i64 x.form, .int .i64 x.ice, .int .i64 x.water, .int .i64 x.dens, .int .i64 x.deg, .int .i64 x.hard, .int .i64 x.age] 45)
        obtain ⟨wq, hwq⟩ : ∃ wq, wq = wr.alloc (.cells #[.int .i64 x.form, .int .i64 x.ice, .int .i64 x.water, .int .i64 x.dens, .int .i64 x.deg, .int .i64 x.hard, .int .i64 x.age] 45) := ⟨_, rfl⟩
        rw [← hwq] at hN hbN
        rw [← hwq]
        clear hwq
        obtain ⟨p, hp⟩ : ∃ p, p = wr.heap.size := ⟨_, rfl⟩
        rw [← hp] at hN
        rw [← hp]
        clear hp
        have hpl := hN.lt
        have HNN := Lib.hid hN
        clear hN
        refine (HGp.out wq (HR.out.below hbN)).mono ?_
        rintro e w2 ⟨rfl, hb2⟩
        obtain ⟨e0, e1, e2, e3, e4, e5, e6⟩ := (HNN.out.below hb2 hpl).box
        go_wp2_with (go_at_call 68; refine (abs_any _ _ (by omega) (by omega)).mono ?_; rintro e w' ⟨rfl, rfl⟩)
        clear e0 e1 e2 e3 e4 e5 e6
        refine (nextForm_any x (absI gp) _).mono ?_
        rintro e wy ⟨rfl, hby⟩
        have hbA : Below wr.heap.size wr wy := bl_trans (bl_trans hbN hb2) hby
        have hO3 := HO.out.below hbA
        have hf0 := hO3.frozen (k * 7)
        have d0 := (hO3.at_ HAT.out).c0
        have HO3 := Lib.hid hO3
        clear hO3
        go_wp2_with fail
        clear d0 hf0
        go_roundw
        case rel =>
          have h := HN.out wy (bl_trans hb hbA) HO3.out
          exact h
        case measure => (simp [intOf]; try omega)
    · obtain rfl : k = ls.length := by omega
      have HO := Lib.hid ho
      clear ho
      go_wp2_with fail
      go_ret
      exact FormR.ends HO.out hb hcap
def formsPR (ls : List Ly) : List Ly := if okL ls then formsL ls else []
theorem formsPR_len (ls : List Ly) (hn : ls.length ≤ 1048576) : (formsPR ls).length ≤ 1048576 := by
  unfold formsPR
  split
  · rw [formsL_len]; exact hn
  · simp
theorem fPR_t {ls : List Ly} (h : okL ls = true) : formsPR ls = formsL ls ∧ codeOk ls = 0 := by unfold formsPR; rw [h]; exact ⟨rfl, codeOk_t h⟩
theorem fPR_f {ls : List Ly} (h : okL ls = false) : formsPR ls = [] ∧ codeOk ls = 1 := by unfold formsPR; rw [h]; exact ⟨rfl, codeOk_f h⟩
theorem specForms_any (A : Option Addr) (c : Nat) (ls : List Ly) (w : World) (hr : RdL w A ls) (hn : ls.length ≤ 1048576) (hc : ls.length ≤ c) :
    Calls Try.prog 26 #[.slice A ls.length c] w (GivesOC w (formsPR ls) (codeOk ls)) := by
  rcases hok : okL ls with _ | _
  · have F := Lib.hid (fPR_f hok)
    go_enter Try.func26, Try.ntmps26
    go_wp2_with (go_at_call 35; refine (l03Ok_any A c ls _ hr hn).mono ?_; rintro e w' ⟨rfl, rfl⟩)
    go_ret2
    exact ⟨_, by rw [F.out.2]; rfl, ⟨none, 0, by rw [F.out.1]; rfl, .inl F.out.1⟩, Below.refl _ _⟩
  · have F := Lib.hid (fPR_t hok)
    have V := VL.of_ok hok
    go_enter Try.func26, Try.ntmps26
    go_wp2_with (go_at_call 35; refine (l03Ok_any A c ls _ hr hn).mono ?_; rintro e w' ⟨rfl, rfl⟩)
    refine (l05Forms_any A c ls _ hr V).mono ?_
    rintro e w2 ⟨A2, c2, rfl, _, ho2, hb2⟩
    go_wp2_with fail
    go_ret2
    exact ⟨_, by rw [F.out.2]; rfl, ⟨A2, c2, by rw [F.out.1]; rfl, by rw [F.out.1]; exact ho2⟩, hb2⟩
theorem implForms_any (A : Option Addr) (c : Nat) (ls : List Ly) (w : World) (hr : RdL w A ls) (hn : ls.length ≤ 1048576) (hc : ls.length ≤ c) :
    Calls Try.prog 27 #[.slice A ls.length c] w (GivesOC w (formsPR ls) (codeOk ls)) := by
  rcases hok : okL ls with _ | _
  · have F := Lib.hid (fPR_f hok)
    go_enter Try.func27, Try.ntmps27
    go_wp2_with (go_at_call 40; refine (validProfile_any A c ls _ hr hn).mono ?_; rintro e w1 ⟨rfl, hb1⟩)
    go_ret2
    exact ⟨_, by rw [F.out.2]; rfl, ⟨none, 0, by rw [F.out.1]; rfl, .inl F.out.1⟩, hb1⟩
  · have F := Lib.hid (fPR_t hok)
    have V := VL.of_ok hok
    go_enter Try.func27, Try.ntmps27
    go_wp2_with fail
    refine (validProfile_any A c ls _ hr hn).mono ?_
    rintro e w1 ⟨rfl, hb1⟩
    go_wp2_with fail
    refine (changedForms_any A c ls _ (hr.below hb1) V).mono ?_
    rintro e w2 ⟨A2, c2, rfl, _, ho2, hb2⟩
    go_wp2_with fail
    go_ret2
    exact ⟨_, by rw [F.out.2]; rfl, ⟨A2, c2, by rw [F.out.1]; rfl, by rw [F.out.1]; exact ho2.mono hb1.size⟩, bl_trans hb1 hb2⟩
end Go.Proofs.Ytnlikinckmoomaa
