/- SplitLayer: the contracts of the program's and of the reference's function. No condition. -/
import Derived.Test.YtfndcahjjlcnaaaAdd
import Derived.Test.YtfndcahjjlcnaaaConcat
import Derived.Test.YtfndcahjjlcnaaaLoad
import Derived.Test.YtfndcahjjlcnaaaDiv
import Derived.BigRegion
namespace Go.Proofs.Ytfndcahjjlcnaaa
open Go.ChangeShapes Go.WideShapes Go.ChangeAt Go.RowKit Go.Joins Go.Deep
set_option linter.unusedVariables false
def lowL (x : Ly) (ice : Int) : Ly := { x with ice := ice, water := x.water * ice / x.ice }
def highL (x : Ly) (ice : Int) : Ly := { x with ice := x.ice - ice, water := x.water - x.water * ice / x.ice }
def splitC (ls : List Ly) (k ice : Int) : Int := if okL ls then (if inB k 0 ((ls.length : Int) - 1) then (if inB ice 1 ((ls.getD k.toNat ⟨0, 0, 0, 0, 0, 0, 0⟩).ice - 1) then (if ls.length = 16 then 5 else 0) else 2) else 2) else 1
def splitR (ls : List Ly) (k ice : Int) : List Ly := if splitC ls k ice = 0 then ls.take k.toNat ++ [lowL (ls.getD k.toNat ⟨0, 0, 0, 0, 0, 0, 0⟩) ice, highL (ls.getD k.toNat ⟨0, 0, 0, 0, 0, 0, 0⟩) ice] ++ ls.drop (k.toNat + 1) else []
theorem splitR_len (ls : List Ly) (k ice : Int) (hn : ls.length ≤ 1048576) : (splitR ls k ice).length ≤ 1048576 := by
  unfold splitR
  split
  · rename_i h
    have h16 : ls.length ≤ 16 := by
      unfold splitC at h
      split at h
      · exact okL_len (by assumption)
      · cases h
    simp only [List.length_append, List.length_take, List.length_drop, List.length_cons, List.length_nil]
    omega
  · simp
theorem split_no {ls : List Ly} {k ice : Int} (c : Int) (h : splitC ls k ice = c) (h0 : c ≠ 0) : splitR ls k ice = [] ∧ splitC ls k ice = c := ⟨by unfold splitR; rw [h, if_neg h0], h⟩
theorem split_1 {ls : List Ly} (h : okL ls = false) (k ice : Int) : splitR ls k ice = [] ∧ splitC ls k ice = 1 := split_no 1 (by unfold splitC; rw [h]; rfl) (by decide)
theorem split_2 {ls : List Ly} {k : Int} (h : okL ls = true) (h2 : inB k 0 ((ls.length : Int) - 1) = false) (ice : Int) : splitR ls k ice = [] ∧ splitC ls k ice = 2 := split_no 2 (by unfold splitC; rw [h, h2]; rfl) (by decide)
theorem getD_at {ls : List Ly} {k : Nat} (hk : k < ls.length) (d : Ly) : ls.getD (k : Int).toNat d = ls[k] := by
  rw [Int.toNat_natCast, List.getD_eq_getElem?_getD, List.getElem?_eq_getElem hk]
  rfl
theorem split_3 {ls : List Ly} {k : Nat} {ice : Int} (hk : k < ls.length) (h : okL ls = true) (h2 : inB (k : Int) 0 ((ls.length : Int) - 1) = true) (h3 : inB ice 1 (ls[k].ice - 1) = false) : splitR ls k ice = [] ∧ splitC ls k ice = 2 := split_no 2 (by unfold splitC; rw [getD_at hk, h, h2, h3]; rfl) (by decide)
theorem split_5 {ls : List Ly} {k : Nat} {ice : Int} (hk : k < ls.length) (h : okL ls = true) (h2 : inB (k : Int) 0 ((ls.length : Int) - 1) = true) (h3 : inB ice 1 (ls[k].ice - 1) = true) (h4 : ls.length = 16) : splitR ls k ice = [] ∧ splitC ls k ice = 5 :=
  split_no 5 (by unfold splitC; rw [getD_at hk, h, h2, h3, if_pos rfl, if_pos rfl, if_pos rfl, if_pos h4]) (by decide)
theorem split_0 {ls : List Ly} {k : Nat} {ice : Int} (hk : k < ls.length) (h : okL ls = true) (h2 : inB (k : Int) 0 ((ls.length : Int) - 1) = true) (h3 : inB ice 1 (ls[k].ice - 1) = true) (h4 : ¬ ls.length = 16) :
    splitR ls k ice = ls.take k ++ [lowL ls[k] ice, highL ls[k] ice] ++ ls.drop (k + 1) ∧ splitC ls k ice = 0 := by
  have hc : splitC ls k ice = 0 := by unfold splitC; rw [getD_at hk, h, h2, h3, if_pos rfl, if_pos rfl, if_pos rfl, if_neg h4]
  exact ⟨by unfold splitR; rw [hc, if_pos rfl, getD_at hk, Int.toNat_natCast], hc⟩
theorem split_bd {x : Ly} (h : LyB x) {ice : Int} (h0 : 1 ≤ ice) (h1 : ice ≤ x.ice - 1) : 0 ≤ x.water * ice ∧ x.water * ice ≤ 1000000000000 ∧ 0 ≤ x.water * ice / x.ice ∧ x.water * ice / x.ice ≤ 1000000000000 := by
  have := h.w0
  have := h.w1
  have := h.i1
  have a : 0 ≤ x.water * ice := Int.mul_nonneg (by omega) (by omega)
  have b : x.water * ice ≤ 1000000 * 1000000 := Int.mul_le_mul (by omega) (by omega) (by omega) (by omega)
  obtain ⟨c, d⟩ := div_le_self (x.water * ice) x.ice a (by omega)
  omega
theorem RdL.two (w : World) (t : TypeId) (x y : Ly) (g : Nat) (hg : g = w.heap.size) : RdL (w.alloc (.cells #[.int .i64 x.form, .int .i64 x.ice, .int .i64 x.water, .int .i64 x.dens, .int .i64 x.deg, .int .i64 x.hard, .int .i64 x.age, .int .i64 y.form, .int .i64 y.ice, .int .i64 y.water, .int .i64 y.dens, .int .i64 y.deg, .int .i64 y.hard, .int .i64 y.age] t)) (some ⟨g, 0, none⟩) [x, y] := by
  subst hg
  intro k z hz
  match k with
  | 0 =>
    simp at hz
    subst hz
    exact ⟨w.heap.size, 0, rfl, by constructor <;> simp [go_sem]⟩
  | 1 =>
    simp at hz
    subst hz
    exact ⟨w.heap.size, 0, rfl, by constructor <;> simp [go_sem]⟩
  | k + 2 => simp at hz
set_option maxHeartbeats 4000000 in
theorem specSplit_any (A : Option Addr) (c : Nat) (ls : List Ly) (k ice : Int) (w : World) (hr : RdL w A ls) (hn : ls.length ≤ 1048576) (hc : ls.length ≤ c) :
    Calls Try.prog 28 #[.slice A ls.length c, .int .i64 k, .int .i64 ice] w (GivesLC w (splitR ls k ice) (splitC ls k ice)) := by
  rcases hok : okL ls with _ | _
  · have F := Lib.hid (split_1 hok k ice)
    have G := ask_1 hok k
    go_enter Try.func28, Try.ntmps28
    go_wp2_with (go_at_call 41; refine (l03Ask_any A c ls _ _ hr hn).mono ?_; rintro e w' ⟨rfl, rfl⟩)
    go_ret2
    exact ⟨_, by rw [F.out.2]; rfl, by rw [F.out.1]; exact OwnS.nil _ _, Below.refl _ _⟩
  rcases hin : inB k 0 ((ls.length : Int) - 1) with _ | _
  · have F := Lib.hid (split_2 hok hin ice)
    have G := ask_2 hok hin
    go_enter Try.func28, Try.ntmps28
    go_wp2_with (go_at_call 41; refine (l03Ask_any A c ls _ _ hr hn).mono ?_; rintro e w' ⟨rfl, rfl⟩)
    go_ret2
    exact ⟨_, by rw [F.out.2]; rfl, by rw [F.out.1]; exact OwnS.nil _ _, Below.refl _ _⟩
  have G := ask_0 hok hin
  obtain ⟨k0, k1⟩ := inB_yes hin
  obtain ⟨m, rfl⟩ := Int.eq_ofNat_of_zero_le k0
  have hm : m < ls.length := by omega
  have V := VL.of_ok hok
  have hB := V.get m hm
  have h16' := V.len
  obtain ⟨x0, x1⟩ : 1 ≤ ls[m].ice ∧ ls[m].ice ≤ 1000000 := ⟨hB.i0, hB.i1⟩
  obtain ⟨y0, y1⟩ : 0 ≤ ls[m].water ∧ ls[m].water ≤ 1000000 := ⟨hB.w0, hB.w1⟩
  obtain ⟨g, o, rfl, hx⟩ := hr.at_ m hm
  rcases hic : inB ice 1 (ls[m].ice - 1) with _ | _
  · have F := Lib.hid (split_3 hm hok hin hic)
    obtain ⟨c0, c1, c2, c3, c4, c5, c6⟩ := hx
    go_enter Try.func28, Try.ntmps28
    go_wp2_with (first | (go_at_call 41; refine (l03Ask_any _ c ls _ _ hr hn).mono ?_; rintro e w' ⟨rfl, rfl⟩) | (go_at_call 35; refine (l00In_any _ _ _ _).mono ?_; rintro e w' ⟨rfl, rfl⟩))
    go_ret2
    exact ⟨_, by rw [F.out.2]; rfl, by rw [F.out.1]; exact OwnS.nil _ _, Below.refl _ _⟩
  obtain ⟨i0, i1⟩ := inB_yes hic
  by_cases h16 : ls.length = 16
  · have F := Lib.hid (split_5 hm hok hin hic h16)
    have hc16 : ((ls.length : Int) == 16) = true := by simp [h16]
    have H16 := Lib.hid h16
    clear h16
    obtain ⟨c0, c1, c2, c3, c4, c5, c6⟩ := hx
    go_enter Try.func28, Try.ntmps28
    go_wp2_with (first | (go_at_call 41; refine (l03Ask_any _ c ls _ _ hr hn).mono ?_; rintro e w' ⟨rfl, rfl⟩) | (go_at_call 35; refine (l00In_any _ _ _ _).mono ?_; rintro e w' ⟨rfl, rfl⟩))
    go_ret2
    exact ⟨_, by rw [F.out.2]; rfl, by rw [F.out.1]; exact OwnS.nil _ _, Below.refl _ _⟩
  have F := Lib.hid (split_0 hm hok hin hic h16)
  have hc16 : ((ls.length : Int) == 16) = false := by simp; omega
  obtain ⟨p0, p1, q0, q1⟩ := split_bd hB i0 i1
  have hg := hx.lt
  have HR := Lib.hid hr
  obtain ⟨c0, c1, c2, c3, c4, c5, c6⟩ := hx
  go_enter Try.func28, Try.ntmps28
  go_wp2_with (first | (go_at_call 41; refine (l03Ask_any _ c ls _ _ hr hn).mono ?_; rintro e w' ⟨rfl, rfl⟩) | (go_at_call 35; refine (l00In_any _ _ _ _).mono ?_; rintro e w' ⟨rfl, rfl⟩))
  go_region
  go_upto_region 14 with fail
  clear c0 c1 c2 c3 c4 c5 c6
  have hL : LyAt (((w.alloc (.cells #[.int .i64 ls[m].form, .int .i64 ice, .int .i64 (ls[m].water * ice / ls[m].ice), .int .i64 ls[m].dens, .int .i64 ls[m].deg, .int .i64 ls[m].hard, .int .i64 ls[m].age] 41)).alloc (.cells #[.int .i64 ls[m].form, .int .i64 (ls[m].ice - ice), .int .i64 (ls[m].water - ls[m].water * ice / ls[m].ice), .int .i64 ls[m].dens, .int .i64 ls[m].deg, .int .i64 ls[m].hard, .int .i64 ls[m].age] 41)).drew) w.heap.size 0 (lowL ls[m] ice) := (boxes2 w 41 (lowL ls[m] ice) (highL ls[m] ice)).1
  have hH : LyAt (((w.alloc (.cells #[.int .i64 ls[m].form, .int .i64 ice, .int .i64 (ls[m].water * ice / ls[m].ice), .int .i64 ls[m].dens, .int .i64 ls[m].deg, .int .i64 ls[m].hard, .int .i64 ls[m].age] 41)).alloc (.cells #[.int .i64 ls[m].form, .int .i64 (ls[m].ice - ice), .int .i64 (ls[m].water - ls[m].water * ice / ls[m].ice), .int .i64 ls[m].dens, .int .i64 ls[m].deg, .int .i64 ls[m].hard, .int .i64 ls[m].age] 41)).drew) (w.heap.size + 1) 0 (highL ls[m] ice) := (boxes2 w 41 (lowL ls[m] ice) (highL ls[m] ice)).2
  have hbw : Below w.heap.size w (((w.alloc (.cells #[.int .i64 ls[m].form, .int .i64 ice, .int .i64 (ls[m].water * ice / ls[m].ice), .int .i64 ls[m].dens, .int .i64 ls[m].deg, .int .i64 ls[m].hard, .int .i64 ls[m].age] 41)).alloc (.cells #[.int .i64 ls[m].form, .int .i64 (ls[m].ice - ice), .int .i64 (ls[m].water - ls[m].water * ice / ls[m].ice), .int .i64 ls[m].dens, .int .i64 ls[m].deg, .int .i64 ls[m].hard, .int .i64 ls[m].age] 41)).drew) := (bl_alloc (bl_alloc (Below.refl _ _) _) _).drew
  generalize ((w.alloc (.cells #[.int .i64 ls[m].form, .int .i64 ice, .int .i64 (ls[m].water * ice / ls[m].ice), .int .i64 ls[m].dens, .int .i64 ls[m].deg, .int .i64 ls[m].hard, .int .i64 ls[m].age] 41)).alloc (.cells #[.int .i64 ls[m].form, .int .i64 (ls[m].ice - ice), .int .i64 (ls[m].water - ls[m].water * ice / ls[m].ice), .int .i64 ls[m].dens, .int .i64 ls[m].deg, .int .i64 ls[m].hard, .int .i64 ls[m].age] 41)).drew = w1 at *
  generalize w.heap.size + 1 = q at *
  have hBw := hbw.size
  obtain ⟨p, hp⟩ : ∃ p, p = w.heap.size := ⟨_, rfl⟩
  rw [← hp] at hL
  rw [← hp]
  have HP := Lib.hid hp
  clear hp
  have hpl := hL.lt
  have hql := hH.lt
  have hr1 := HR.out.below hbw
  obtain ⟨A1, c1, hs1, hd1⟩ := slice_to (some ⟨g, o, none⟩) c ls m (m : Int) rfl (by omega) hc
  obtain ⟨A2, c2, hs2, hd2⟩ := slice_from (some ⟨g, o, none⟩) c ls (m + 1) ((m : Int) + 1) (by omega) (by omega) hc
  have HR1 := Lib.hid (hd1 w1 hr1)
  have HR2 := Lib.hid (hd2 w1 hr1)
  have l1 : (ls.take m).length ≤ 16 := by rw [List.length_take]; omega
  have l2 : (ls.drop (m + 1)).length ≤ 16 := by rw [List.length_drop]; omega
  clear hr1 hd1 hd2 HR
  generalize lowL ls[m] ice = lo at *
  generalize highL ls[m] ice = hi at *
  have HL := Lib.hid hL
  have HH := Lib.hid hH
  clear hL hH
  generalize ls.take m = pre at *
  generalize ls.drop (m + 1) = post at *
  go_wp2_with (first
    | (at_builtin; refine wpList_appL _ rfl (.tmp 65) (.tmp 68) rfl w1.heap.size _ [] pre A1 c1 rfl rfl (OwnS.made0' _ _ _ rfl (Nat.le_refl _)) (HR1.out.below (bl_alloc (Below.refl _ _) _)) (by simp; omega) (by simp) ?_; intro v1 w2 ho1 hb2 _; have hb12 := (bl_alloc (Below.refl w1.heap.size w1) (.cells #[] 41)).trans hb2; obtain ⟨a0, a1, a2, a3, a4, a5, a6⟩ := (HL.out.below hb12 hpl).box; obtain ⟨b0, b1, b2, b3, b4, b5, b6⟩ := (HH.out.below hb12 hql).box; have HO1 := Lib.hid ho1; clear ho1)
    | (at_builtin; refine wpList_appL _ rfl (.tmp 70) (.tmp 73) rfl w1.heap.size _ pre [lo, hi] _ _ rfl rfl (OwnS.below HO1.out (bl_alloc (Below.refl _ _) _)) (RdL.two _ _ _ _ _ rfl) (by simp; omega) (by have := hb12.size; simp; omega) ?_; intro v2 w3 ho2 hb3 _; have HO2 := Lib.hid ho2; clear ho2; have hb13 := (hb12.alloc hb12.size _).trans hb3)
    | (at_builtin; refine wpList_appL _ rfl (.tmp 75) (.tmp 79) rfl w1.heap.size _ (pre ++ [lo, hi]) post A2 c2 rfl rfl HO2.out (HR2.out.below hb13) (by simp; omega) hb13.size ?_; intro v3 w4 ho3 hb4 _))
  go_ret2
  exact ⟨v3, by rw [F.out.2]; rfl, by rw [F.out.1]; exact ho3.mono hBw, hbw.trans ((hb13.trans hb4).mono hBw)⟩
set_option maxHeartbeats 4000000 in
theorem implSplit_any (A : Option Addr) (c : Nat) (ls : List Ly) (k ice : Int) (w : World) (hr : RdL w A ls) (hn : ls.length ≤ 1048576) (hc : ls.length ≤ c) :
    Calls Try.prog 29 #[.slice A ls.length c, .int .i64 k, .int .i64 ice] w (GivesLC w (splitR ls k ice) (splitC ls k ice)) := by
  rcases hok : okL ls with _ | _
  · have F := Lib.hid (split_1 hok k ice)
    go_enter Try.func29, Try.ntmps29
    go_wp2_with (first | (go_at_call 32; refine (validProfile_any A c ls _ hr hn).mono ?_; rintro e w1 ⟨rfl, hb1⟩) | (go_at_call 45; refine (indexValid_any A c ls _ _ hn).mono ?_; rintro e w' ⟨rfl, rfl⟩))
    go_ret2
    exact ⟨_, by rw [F.out.2]; rfl, by rw [F.out.1]; exact OwnS.nil _ _, hb1⟩
  rcases hin : inB k 0 ((ls.length : Int) - 1) with _ | _
  · have F := Lib.hid (split_2 hok hin ice)
    go_enter Try.func29, Try.ntmps29
    go_wp2_with (first | (go_at_call 32; refine (validProfile_any A c ls _ hr hn).mono ?_; rintro e w1 ⟨rfl, hb1⟩) | (go_at_call 45; refine (indexValid_any A c ls _ _ hn).mono ?_; rintro e w' ⟨rfl, rfl⟩))
    go_ret2
    exact ⟨_, by rw [F.out.2]; rfl, by rw [F.out.1]; exact OwnS.nil _ _, hb1⟩
  obtain ⟨k0, k1⟩ := inB_yes hin
  obtain ⟨m, rfl⟩ := Int.eq_ofNat_of_zero_le k0
  have hm : m < ls.length := by omega
  have V := VL.of_ok hok
  have hB := V.get m hm
  have h16' := V.len
  obtain ⟨x0, x1⟩ : 1 ≤ ls[m].ice ∧ ls[m].ice ≤ 1000000 := ⟨hB.i0, hB.i1⟩
  obtain ⟨y0, y1⟩ : 0 ≤ ls[m].water ∧ ls[m].water ≤ 1000000 := ⟨hB.w0, hB.w1⟩
  obtain ⟨g, o, rfl, hx⟩ := hr.at_ m hm
  rcases hic : inB ice 1 (ls[m].ice - 1) with _ | _
  · have F := Lib.hid (split_3 hm hok hin hic)
    go_enter Try.func29, Try.ntmps29
    go_wp2_with (first | (go_at_call 32; refine (validProfile_any _ c ls _ hr hn).mono ?_; rintro e wv ⟨rfl, hb1⟩; have hgv := (hx.below hb1 hx.lt).lt; obtain ⟨c0, c1, c2, c3, c4, c5, c6⟩ := hx.below hb1 hx.lt) | (go_at_call 45; refine (indexValid_any _ c ls _ _ hn).mono ?_; rintro e w' ⟨rfl, rfl⟩) | (go_at_call 37; refine (within_any _ _ _ _).mono ?_; rintro e w' ⟨rfl, rfl⟩))
    go_ret2
    exact ⟨_, by rw [F.out.2]; rfl, by rw [F.out.1]; exact OwnS.nil _ _, hb1⟩
  obtain ⟨i0, i1⟩ := inB_yes hic
  by_cases h16 : ls.length = 16
  · have F := Lib.hid (split_5 hm hok hin hic h16)
    have hc16 : ((ls.length : Int) == 16) = true := by simp [h16]
    have H16 := Lib.hid h16
    clear h16
    go_enter Try.func29, Try.ntmps29
    go_wp2_with (first | (go_at_call 32; refine (validProfile_any _ c ls _ hr hn).mono ?_; rintro e wv ⟨rfl, hb1⟩; have hgv := (hx.below hb1 hx.lt).lt; obtain ⟨c0, c1, c2, c3, c4, c5, c6⟩ := hx.below hb1 hx.lt) | (go_at_call 45; refine (indexValid_any _ c ls _ _ hn).mono ?_; rintro e w' ⟨rfl, rfl⟩) | (go_at_call 37; refine (within_any _ _ _ _).mono ?_; rintro e w' ⟨rfl, rfl⟩))
    go_ret2
    exact ⟨_, by rw [F.out.2]; rfl, by rw [F.out.1]; exact OwnS.nil _ _, hb1⟩
  have F := Lib.hid (split_0 hm hok hin hic h16)
  have hc16 : ((ls.length : Int) == 16) = false := by simp; omega
  obtain ⟨p0, p1, q0, q1⟩ := split_bd hB i0 i1
  have hg := hx.lt
  have HR := Lib.hid hr
  go_enter Try.func29, Try.ntmps29
  go_wp2_with (first | (go_at_call 32; refine (validProfile_any _ c ls _ hr hn).mono ?_; rintro e wv ⟨rfl, hb1⟩; have hgv := (hx.below hb1 hx.lt).lt; obtain ⟨c0, c1, c2, c3, c4, c5, c6⟩ := hx.below hb1 hx.lt) | (go_at_call 45; refine (indexValid_any _ c ls _ _ hn).mono ?_; rintro e w' ⟨rfl, rfl⟩) | (go_at_call 37; refine (within_any _ _ _ _).mono ?_; rintro e w' ⟨rfl, rfl⟩))
  go_region
  all_goals
    go_wp2_with fail
    go_region
    go_upto_region 11 with fail
    first
      | (obtain ⟨w1, hw1⟩ : ∃ w1, w1 = ((wv.alloc (.cells #[.int .i64 ls[m].form, .int .i64 ice, .int .i64 (ls[m].water * ice / ls[m].ice), .int .i64 ls[m].dens, .int .i64 ls[m].deg, .int .i64 ls[m].hard, .int .i64 ls[m].age] 41)).alloc (.cells #[.int .i64 ls[m].form, .int .i64 (ls[m].ice - ice), .int .i64 (ls[m].water - ls[m].water * ice / ls[m].ice), .int .i64 ls[m].dens, .int .i64 ls[m].deg, .int .i64 ls[m].hard, .int .i64 ls[m].age] 41)).drew.drew := ⟨_, rfl⟩
         have hL : LyAt w1 (wv.heap.size) 0 (lowL ls[m] ice) := hw1 ▸ ((boxes2 wv 41 (lowL ls[m] ice) (highL ls[m] ice)).1).drew
         have hH : LyAt w1 (wv.heap.size + 1) 0 (highL ls[m] ice) := hw1 ▸ ((boxes2 wv 41 (lowL ls[m] ice) (highL ls[m] ice)).2).drew
         have hbw : Below w.heap.size w w1 := hw1 ▸ (bl_trans hb1 (bl_alloc (bl_alloc (Below.refl _ _) _) _).drew.drew)
         rw [← hw1]
         clear hw1
         obtain ⟨p, hp⟩ : ∃ p, p = wv.heap.size := ⟨_, rfl⟩
         obtain ⟨q, hq⟩ : ∃ q, q = wv.heap.size + 1 := ⟨_, rfl⟩
         rw [← hp] at hL
         rw [← hq] at hH
         rw [← hq, ← hp])
      | (obtain ⟨w1, hw1⟩ : ∃ w1, w1 = ((wv.alloc (.cells #[.int .i64 ls[m].form, .int .i64 (ls[m].ice - ice), .int .i64 (ls[m].water - ls[m].water * ice / ls[m].ice), .int .i64 ls[m].dens, .int .i64 ls[m].deg, .int .i64 ls[m].hard, .int .i64 ls[m].age] 41)).alloc (.cells #[.int .i64 ls[m].form, .int .i64 ice, .int .i64 (ls[m].water * ice / ls[m].ice), .int .i64 ls[m].dens, .int .i64 ls[m].deg, .int .i64 ls[m].hard, .int .i64 ls[m].age] 41)).drew.drew := ⟨_, rfl⟩
         have hL : LyAt w1 (wv.heap.size + 1) 0 (lowL ls[m] ice) := hw1 ▸ ((boxes2 wv 41 (highL ls[m] ice) (lowL ls[m] ice)).2).drew
         have hH : LyAt w1 (wv.heap.size) 0 (highL ls[m] ice) := hw1 ▸ ((boxes2 wv 41 (highL ls[m] ice) (lowL ls[m] ice)).1).drew
         have hbw : Below w.heap.size w w1 := hw1 ▸ (bl_trans hb1 (bl_alloc (bl_alloc (Below.refl _ _) _) _).drew.drew)
         rw [← hw1]
         clear hw1
         obtain ⟨p, hp⟩ : ∃ p, p = wv.heap.size + 1 := ⟨_, rfl⟩
         obtain ⟨q, hq⟩ : ∃ q, q = wv.heap.size := ⟨_, rfl⟩
         rw [← hp] at hL
         rw [← hq] at hH
         rw [← hp, ← hq])
    clear c0 c1 c2 c3 c4 c5 c6
    have HP := Lib.hid hp
    have HQ := Lib.hid hq
    clear hp hq
    have hBw := hbw.size
    have hpl := hL.lt
    have hql := hH.lt
    have hr1 := HR.out.below hbw
    obtain ⟨A1, c1, hs1, hd1⟩ := slice_to (some ⟨g, o, none⟩) c ls m (m : Int) rfl (by omega) hc
    obtain ⟨A2, c2, hs2, hd2⟩ := slice_from (some ⟨g, o, none⟩) c ls (m + 1) ((m : Int) + 1) (by omega) (by omega) hc
    have HR1 := Lib.hid (hd1 w1 hr1)
    have HR2 := Lib.hid (hd2 w1 hr1)
    have l1 : (ls.take m).length ≤ 16 := by rw [List.length_take]; omega
    have l2 : (ls.drop (m + 1)).length ≤ 16 := by rw [List.length_drop]; omega
    clear hr1 hd1 hd2 HR
    generalize lowL ls[m] ice = lo at *
    generalize highL ls[m] ice = hi at *
    obtain ⟨a0, a1, a2, a3, a4, a5, a6⟩ := hL.box
    obtain ⟨b0, b1, b2, b3, b4, b5, b6⟩ := hH.box
    clear hL hH
    generalize ls.take m = pre at *
    generalize ls.drop (m + 1) = post at *
    have r1 : IntKind.i64.wrap ((m : Int) + 1) = (m : Int) + 1 := by rw [IntKind.wrap_i64]; omega
    go_region_held3 (fun w' => w'.cell? ⟨p, 0, none⟩ = some (.int .i64 lo.form) ∧ w'.cell? ⟨p, 1, none⟩ = some (.int .i64 lo.ice) ∧ w'.cell? ⟨p, 2, none⟩ = some (.int .i64 lo.water) ∧ w'.cell? ⟨p, 3, none⟩ = some (.int .i64 lo.dens) ∧ w'.cell? ⟨p, 4, none⟩ = some (.int .i64 lo.deg) ∧ w'.cell? ⟨p, 5, none⟩ = some (.int .i64 lo.hard) ∧ w'.cell? ⟨p, 6, none⟩ = some (.int .i64 lo.age) ∧ w'.cell? ⟨q, 0, none⟩ = some (.int .i64 hi.form) ∧ w'.cell? ⟨q, 1, none⟩ = some (.int .i64 hi.ice) ∧ w'.cell? ⟨q, 2, none⟩ = some (.int .i64 hi.water) ∧ w'.cell? ⟨q, 3, none⟩ = some (.int .i64 hi.dens) ∧ w'.cell? ⟨q, 4, none⟩ = some (.int .i64 hi.deg) ∧ w'.cell? ⟨q, 5, none⟩ = some (.int .i64 hi.hard) ∧ w'.cell? ⟨q, 6, none⟩ = some (.int .i64 hi.age) ∧ Below w1.heap.size w1 w') (first | exact S14_step hpl hql (by assumption) (by assumption) | (refine ⟨?_, ?_, ?_, ?_, ?_, ?_, ?_, ?_, ?_, ?_, ?_, ?_, ?_, ?_, ?_⟩ <;> first | assumption | exact Below.refl _ _ | exact (Below.refl _ _).drew | exact (bl_alloc (Below.refl _ _) _).drew | exact bl_alloc (Below.refl _ _) _ | exact (bl_alloc (bl_alloc (Below.refl _ _) _) _).drew | exact bl_trans (bl_alloc (bl_alloc (Below.refl _ _) _) _).drew (by assumption) | go_keep) | go_keep)
      (first | (go_at_call 56; refine (concat3_any _ A1 (some ⟨w1.heap.size, 0, none⟩) A2 c1 2 c2 pre [lo, hi] post _ ?_ ?_ ?_).mono ?_; (exact (parts3 _ _ _ _ _ _ _ _ _ _ _ _ _ _ rfl rfl rfl (HR1.out.below (bl_alloc (Below.refl _ _) _)) (RdL.two _ _ _ _ _ rfl) (HR2.out.below (bl_alloc (Below.refl _ _) _)) _ (by simp)).drew); (simp); (simp only [List.length_cons, List.length_nil]; omega); rintro e w5 ⟨v3, rfl, ho3, hb5⟩))
    go_wp2_with fail
    go_ret2
    exact ⟨v3, by rw [F.out.2]; rfl, by rw [F.out.1]; exact ho3.mono (by simp; omega), bl_trans hbw (S14_bl (by assumption))⟩
end Go.Proofs.Ytfndcahjjlcnaaa
