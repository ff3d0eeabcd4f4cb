/- JoinLayers: plain laws of the result, and the contracts of the program's and of the reference's function. No condition. -/
import Derived.Test.YthlandlpjhdbdaaJoin
namespace Go.Proofs.Ythlandlpjhdbdaa
open Go.ChangeShapes Go.WideShapes Go.ChangeAt Go.RowKit Go.Joins Go.Deep
set_option linter.unusedVariables false
def z7j : Ly := ⟨0, 0, 0, 0, 0, 0, 0⟩
def joinAt (ls : List Ly) (k : Nat) : Ly := joinF (ls.getD k z7j) (ls.getD (k + 1) z7j)
def joinC (ls : List Ly) (k : Int) : Int := if okL ls then (if inB k 0 ((ls.length : Int) - 2) then (if (ls.getD k.toNat z7j).form = (ls.getD (k.toNat + 1) z7j).form then (if lyOk (joinAt ls k.toNat) then 0 else 5) else 6) else 2) else 1
def joinR (ls : List Ly) (k : Int) : List Ly := if joinC ls k = 0 then ls.take k.toNat ++ [joinAt ls k.toNat] ++ ls.drop (k.toNat + 2) else []
theorem joinR_len (ls : List Ly) (k : Int) (hn : ls.length ≤ 1048576) : (joinR ls k).length ≤ 1048576 := by
  unfold joinR
  split
  · rename_i h
    have h16 : ls.length ≤ 16 := by
      unfold joinC at h
      split at h
      · exact okL_len (by assumption)
      · cases h
    simp only [List.length_append, List.length_take, List.length_drop, List.length_cons, List.length_nil]
    omega
  · simp
theorem join_no {ls : List Ly} {k : Int} (c : Int) (h : joinC ls k = c) (h0 : c ≠ 0) : joinR ls k = [] ∧ joinC ls k = c := ⟨by unfold joinR; rw [h, if_neg h0], h⟩
theorem join_1 {ls : List Ly} (h : okL ls = false) (k : Int) : joinR ls k = [] ∧ joinC ls k = 1 := join_no 1 (by unfold joinC; rw [h]; rfl) (by decide)
theorem join_2 {ls : List Ly} {k : Int} (h : okL ls = true) (h2 : inB k 0 ((ls.length : Int) - 2) = false) : joinR ls k = [] ∧ joinC ls k = 2 := join_no 2 (by unfold joinC; rw [h, h2]; rfl) (by decide)
theorem getDj {ls : List Ly} {k : Nat} (hk : k < ls.length) : ls.getD k z7j = ls[k] := by
  rw [List.getD_eq_getElem?_getD, List.getElem?_eq_getElem hk]
  rfl
theorem joinAt_eq {ls : List Ly} {k : Nat} (hk : k + 1 < ls.length) : joinAt ls k = joinF ls[k] ls[k + 1] := by
  unfold joinAt
  rw [getDj (by omega), getDj hk]
theorem join_6 {ls : List Ly} {k : Nat} (hk : k + 1 < ls.length) (h : okL ls = true) (h2 : inB (k : Int) 0 ((ls.length : Int) - 2) = true) (h3 : ¬ ls[k].form = ls[k + 1].form) : joinR ls k = [] ∧ joinC ls k = 6 :=
  join_no 6 (by unfold joinC; rw [h, h2, Int.toNat_natCast, getDj (by omega), getDj hk, if_pos rfl, if_pos rfl, if_neg h3]) (by decide)
theorem join_5 {ls : List Ly} {k : Nat} (hk : k + 1 < ls.length) (h : okL ls = true) (h2 : inB (k : Int) 0 ((ls.length : Int) - 2) = true) (h3 : ls[k].form = ls[k + 1].form) (h4 : lyOk (joinF ls[k] ls[k + 1]) = false) : joinR ls k = [] ∧ joinC ls k = 5 :=
  join_no 5 (by unfold joinC; rw [h, h2, Int.toNat_natCast, joinAt_eq hk, h4, getDj (by omega), getDj hk, if_pos rfl, if_pos rfl, if_pos h3]; rfl) (by decide)
theorem join_0 {ls : List Ly} {k : Nat} (hk : k + 1 < ls.length) (h : okL ls = true) (h2 : inB (k : Int) 0 ((ls.length : Int) - 2) = true) (h3 : ls[k].form = ls[k + 1].form) (h4 : lyOk (joinF ls[k] ls[k + 1]) = true) :
    joinR ls k = ls.take k ++ [joinF ls[k] ls[k + 1]] ++ ls.drop (k + 2) ∧ joinC ls k = 0 := by
  have hc : joinC ls k = 0 := by unfold joinC; rw [h, h2, Int.toNat_natCast, joinAt_eq hk, h4, getDj (by omega), getDj hk, if_pos rfl, if_pos rfl, if_pos h3]; rfl
  exact ⟨by unfold joinR; rw [hc, if_pos rfl, Int.toNat_natCast, joinAt_eq hk], hc⟩
theorem LyAt.put7 {w : World} {p : Nat} {t : TypeId} (hk : w.heap[p]? = some (.cells #[.int .i64 0, .int .i64 0, .int .i64 0, .int .i64 0, .int .i64 0, .int .i64 0, .int .i64 0] t (0, 0))) (J : Ly) : LyAt (((((((w.setCell ⟨p, 0, none⟩ (.int .i64 J.form)).setCell ⟨p, 1, none⟩ (.int .i64 J.ice)).setCell ⟨p, 2, none⟩ (.int .i64 J.water)).setCell ⟨p, 3, none⟩ (.int .i64 J.dens)).setCell ⟨p, 4, none⟩ (.int .i64 J.deg)).setCell ⟨p, 5, none⟩ (.int .i64 J.hard)).setCell ⟨p, 6, none⟩ (.int .i64 J.age)) p 0 J := by
  have h0 := heap_setCell_same w p 0 _ t (.int .i64 J.form) hk
  have h1 := heap_setCell_same _ p 1 _ t (.int .i64 J.ice) h0
  have h2 := heap_setCell_same _ p 2 _ t (.int .i64 J.water) h1
  have h3 := heap_setCell_same _ p 3 _ t (.int .i64 J.dens) h2
  have h4 := heap_setCell_same _ p 4 _ t (.int .i64 J.deg) h3
  have h5 := heap_setCell_same _ p 5 _ t (.int .i64 J.hard) h4
  have h6 := heap_setCell_same _ p 6 _ t (.int .i64 J.age) h5
  have h7 : (((((((w.setCell ⟨p, 0, none⟩ (.int .i64 J.form)).setCell ⟨p, 1, none⟩ (.int .i64 J.ice)).setCell ⟨p, 2, none⟩ (.int .i64 J.water)).setCell ⟨p, 3, none⟩ (.int .i64 J.dens)).setCell ⟨p, 4, none⟩ (.int .i64 J.deg)).setCell ⟨p, 5, none⟩ (.int .i64 J.hard)).setCell ⟨p, 6, none⟩ (.int .i64 J.age)).heap[p]? = some (.cells #[.int .i64 J.form, .int .i64 J.ice, .int .i64 J.water, .int .i64 J.dens, .int .i64 J.deg, .int .i64 J.hard, .int .i64 J.age] t (0, 0)) := by simpa using h6
  clear h0 h1 h2 h3 h4 h5 h6
  generalize (((((((w.setCell ⟨p, 0, none⟩ (.int .i64 J.form)).setCell ⟨p, 1, none⟩ (.int .i64 J.ice)).setCell ⟨p, 2, none⟩ (.int .i64 J.water)).setCell ⟨p, 3, none⟩ (.int .i64 J.dens)).setCell ⟨p, 4, none⟩ (.int .i64 J.deg)).setCell ⟨p, 5, none⟩ (.int .i64 J.hard)).setCell ⟨p, 6, none⟩ (.int .i64 J.age)) = W at *
  exact ⟨(cell_of_row W p (0 + 0) _ t (0, 0) h7).trans rfl, (cell_of_row W p (0 + 1) _ t (0, 0) h7).trans rfl, (cell_of_row W p (0 + 2) _ t (0, 0) h7).trans rfl, (cell_of_row W p (0 + 3) _ t (0, 0) h7).trans rfl, (cell_of_row W p (0 + 4) _ t (0, 0) h7).trans rfl, (cell_of_row W p (0 + 5) _ t (0, 0) h7).trans rfl, (cell_of_row W p (0 + 6) _ t (0, 0) h7).trans rfl⟩
theorem below_put7 {w0 w : World} {p : Nat} (h : Below w0.heap.size w0 w) (hp : w0.heap.size ≤ p) (J : Ly) : Below w0.heap.size w0 (((((((w.setCell ⟨p, 0, none⟩ (.int .i64 J.form)).setCell ⟨p, 1, none⟩ (.int .i64 J.ice)).setCell ⟨p, 2, none⟩ (.int .i64 J.water)).setCell ⟨p, 3, none⟩ (.int .i64 J.dens)).setCell ⟨p, 4, none⟩ (.int .i64 J.deg)).setCell ⟨p, 5, none⟩ (.int .i64 J.hard)).setCell ⟨p, 6, none⟩ (.int .i64 J.age)) :=
  bl_set (bl_set (bl_set (bl_set (bl_set (bl_set (bl_set h _ _ hp _) _ _ hp _) _ _ hp _) _ _ hp _) _ _ hp _) _ _ hp _) _ _ hp _
set_option maxHeartbeats 2000000 in
theorem specJoin_any (A : Option Addr) (c : Nat) (ls : List Ly) (k : Int) (w : World) (hr : RdL w A ls) (hn : ls.length ≤ 1048576) (hc : ls.length ≤ c) :
    Calls Try.prog 5 #[.slice A ls.length c, .int .i64 k] w (GivesLC w (joinR ls k) (joinC ls k)) := by
  have W0 : IntKind.i64.wrap ((ls.length : Int) - 2) = (ls.length : Int) - 2 := by rw [IntKind.wrap_i64]; omega
  rcases hok : okL ls with _ | _
  · have F := Lib.hid (join_1 hok k)
    go_enter Try.func5, Try.ntmps5
    go_wp2_with (go_at_call 11; refine (l03Ok_any A c ls _ hr hn).mono ?_; rintro e w' ⟨rfl, rfl⟩)
    go_ret2
    exact ⟨_, by rw [F.out.2]; rfl, by rw [F.out.1]; exact OwnS.nil _ _, Below.refl _ _⟩
  rcases hin : inB k 0 ((ls.length : Int) - 2) with _ | _
  · have F := Lib.hid (join_2 hok hin)
    go_enter Try.func5, Try.ntmps5
    go_wp2_with (first | (go_at_call 11; refine (l03Ok_any A c ls _ hr hn).mono ?_; rintro e w' ⟨rfl, rfl⟩) | (go_at_call 12; refine (l00In_any _ _ _ _).mono ?_; rintro e w' ⟨rfl, rfl⟩))
    go_ret2
    exact ⟨_, by rw [F.out.2]; rfl, by rw [F.out.1]; exact OwnS.nil _ _, Below.refl _ _⟩
  obtain ⟨k0, k1⟩ := inB_yes hin
  obtain ⟨m, rfl⟩ := Int.eq_ofNat_of_zero_le k0
  have hm : m + 1 < ls.length := by omega
  have V := VL.of_ok hok
  have h16' := V.len
  have bX := V.get m (by omega)
  have bY := V.get (m + 1) hm
  obtain ⟨g, o, rfl, hx⟩ := hr.at_ m (by omega)
  obtain ⟨g', o', hA, hy⟩ := hr.at_ (m + 1) hm
  injection hA with hA
  injection hA with hA1 hA2
  subst hA1 hA2
  have W1 : IntKind.i64.wrap ((m : Int) + 1) = ((m + 1 : Nat) : Int) := by rw [IntKind.wrap_i64]; push_cast; omega
  by_cases hf : ls[m].form = ls[m + 1].form
  · have HJ := Lib.hid (fun (W : World) (hX : LyAt W g (o + m * 7) ls[m]) (hY : LyAt W g (o + (m + 1) * 7) ls[m + 1]) => l03Join_any ls[m] ls[m + 1] g (o + m * 7) g (o + (m + 1) * 7) W hX hY bX bY)
    have hfb : (ls[m].form != ls[m + 1].form) = false := by simpa using hf
    have c0 := hx.c0
    have k0 := hy.c0
    have HX := Lib.hid hx
    have HY := Lib.hid hy
    have HR := Lib.hid hr
    rcases hj : lyOk (joinF ls[m] ls[m + 1]) with _ | _
    · have F := Lib.hid (join_5 hm hok hin hf hj)
      generalize joinF ls[m] ls[m + 1] = J at *
      go_enter Try.func5, Try.ntmps5
      go_wp2_with (first | (go_at_call 11; refine (l03Ok_any _ c ls _ hr hn).mono ?_; rintro e w' ⟨rfl, rfl⟩) | (go_at_call 12; refine (l00In_any _ _ _ _).mono ?_; rintro e w' ⟨rfl, rfl⟩))
      go_quiet (fail)
      go_wp2_with fail
      obtain ⟨wq, hwq⟩ : ∃ wq, wq = w.drewN nq := ⟨_, rfl⟩
      have HXq : LyAt wq g (o + m * 7) ls[m] := by rw [hwq]; exact HX.out.drewN nq
      have HYq : LyAt wq g (o + (m + 1) * 7) ls[m + 1] := by rw [hwq]; exact HY.out.drewN nq
      have hbq : Below w.heap.size w wq := by rw [hwq]; exact bl_drewN (Below.refl _ _) nq
      rw [← hwq]
      have HQ := Lib.hid hwq
      have hgq := HXq.lt
      have HXQ := Lib.hid HXq
      have HYQ := Lib.hid HYq
      clear hwq HXq HYq
      go_region_with (go_at_call 13; first
        | (refine (HJ.out (wq.drew) HXQ.out.drew HYQ.out.drew).mono ?_; rintro e w1 ⟨rfl, hb1⟩)
        | (refine (HJ.out ((wq.drew).alloc (.cells #[.int .i64 0, .int .i64 0, .int .i64 0, .int .i64 0, .int .i64 0, .int .i64 0, .int .i64 0] 34)) (HXQ.out.drew.below (bl_alloc (Below.refl _ _) _) HXQ.out.drew.lt) (HYQ.out.drew.below (bl_alloc (Below.refl _ _) _) HYQ.out.drew.lt)).mono ?_; rintro e w1 ⟨rfl, hb1⟩; have hk1 : w1.heap[wq.heap.size]? = some (.cells #[.int .i64 0, .int .i64 0, .int .i64 0, .int .i64 0, .int .i64 0, .int .i64 0, .int .i64 0] 34 (0, 0)) := (hb1.block wq.heap.size (by simp)).trans (heap_alloc_new wq.drew _); have z0 : w1.cell? ⟨wq.heap.size, 0, none⟩ = some (.int .i64 0) := (cell_of_row _ _ _ _ _ (0, 0) hk1).trans rfl; have z1 : w1.cell? ⟨wq.heap.size, 1, none⟩ = some (.int .i64 0) := (cell_of_row _ _ _ _ _ (0, 0) hk1).trans rfl; have z2 : w1.cell? ⟨wq.heap.size, 2, none⟩ = some (.int .i64 0) := (cell_of_row _ _ _ _ _ (0, 0) hk1).trans rfl; have z3 : w1.cell? ⟨wq.heap.size, 3, none⟩ = some (.int .i64 0) := (cell_of_row _ _ _ _ _ (0, 0) hk1).trans rfl; have z4 : w1.cell? ⟨wq.heap.size, 4, none⟩ = some (.int .i64 0) := (cell_of_row _ _ _ _ _ (0, 0) hk1).trans rfl; have z5 : w1.cell? ⟨wq.heap.size, 5, none⟩ = some (.int .i64 0) := (cell_of_row _ _ _ _ _ (0, 0) hk1).trans rfl; have z6 : w1.cell? ⟨wq.heap.size, 6, none⟩ = some (.int .i64 0) := (cell_of_row _ _ _ _ _ (0, 0) hk1).trans rfl; have f0 := frozen_of_row w1 wq.heap.size 0 _ _ hk1; have f1 := frozen_of_row w1 wq.heap.size 1 _ _ hk1; have f2 := frozen_of_row w1 wq.heap.size 2 _ _ hk1; have f3 := frozen_of_row w1 wq.heap.size 3 _ _ hk1; have f4 := frozen_of_row w1 wq.heap.size 4 _ _ hk1; have f5 := frozen_of_row w1 wq.heap.size 5 _ _ hk1; have f6 := frozen_of_row w1 wq.heap.size 6 _ _ hk1; have HK1 := Lib.hid hk1; clear hk1))
      all_goals
        have hbz := hb1
        have hbz' : Below wq.heap.size wq w1 := by first | exact (Below.refl wq.heap.size wq).drew.trans hbz | exact (bl_alloc (Below.refl wq.heap.size wq).drew _).trans (hbz.mono (by simp))
        clear hbz
        first
          | (obtain ⟨w2, hw2⟩ : ∃ w2, w2 = w1.alloc (.cells #[.int .i64 J.form, .int .i64 J.ice, .int .i64 J.water, .int .i64 J.dens, .int .i64 J.deg, .int .i64 J.hard, .int .i64 J.age] 34) := ⟨_, rfl⟩
             have hL : LyAt w2 w1.heap.size 0 J := hw2 ▸ LyAt.new w1 _ J
             have hb2 : Below wq.heap.size wq w2 := hw2 ▸ bl_alloc hbz' _
             rw [← hw2]
             clear hw2
             obtain ⟨p, hp⟩ : ∃ p, p = w1.heap.size := ⟨_, rfl⟩
             rw [← hp] at hL
             rw [← hp])
          | (obtain ⟨w2, hw2⟩ : ∃ w2, w2 = (((((((w1.setCell ⟨wq.heap.size, 0, none⟩ (.int .i64 J.form)).setCell ⟨wq.heap.size, 1, none⟩ (.int .i64 J.ice)).setCell ⟨wq.heap.size, 2, none⟩ (.int .i64 J.water)).setCell ⟨wq.heap.size, 3, none⟩ (.int .i64 J.dens)).setCell ⟨wq.heap.size, 4, none⟩ (.int .i64 J.deg)).setCell ⟨wq.heap.size, 5, none⟩ (.int .i64 J.hard)).setCell ⟨wq.heap.size, 6, none⟩ (.int .i64 J.age)) := ⟨_, rfl⟩
             have hL : LyAt w2 wq.heap.size 0 J := hw2 ▸ LyAt.put7 HK1.out J
             have hb2 : Below wq.heap.size wq w2 := hw2 ▸ below_put7 hbz' (Nat.le_refl _) J
             rw [← hw2]
             clear hw2 z0 z1 z2 z3 z4 z5 z6 f0 f1 f2 f3 f4 f5 f6
             obtain ⟨p, hp⟩ : ∃ p, p = wq.heap.size := ⟨_, rfl⟩
             rw [← hp] at hL
             rw [← hp])
        clear hb1 hp
        have hb := bl_trans hbq hb2
        clear hbz'
        go_wp2_with fail
        refine (l03One_any J p 0 _ hL).mono ?_
        rintro e w3 ⟨rfl, rfl⟩
        go_wp2_with fail
        go_ret2
        exact ⟨_, by rw [F.out.2]; rfl, by rw [F.out.1]; exact OwnS.nil _ _, hb⟩
    · have F := Lib.hid (join_0 hm hok hin hf hj)
      generalize joinF ls[m] ls[m + 1] = J at *
      go_enter Try.func5, Try.ntmps5
      go_wp2_with (first | (go_at_call 11; refine (l03Ok_any _ c ls _ hr hn).mono ?_; rintro e w' ⟨rfl, rfl⟩) | (go_at_call 12; refine (l00In_any _ _ _ _).mono ?_; rintro e w' ⟨rfl, rfl⟩))
      go_quiet (fail)
      go_wp2_with fail
      obtain ⟨wq, hwq⟩ : ∃ wq, wq = w.drewN nq := ⟨_, rfl⟩
      have HXq : LyAt wq g (o + m * 7) ls[m] := by rw [hwq]; exact HX.out.drewN nq
      have HYq : LyAt wq g (o + (m + 1) * 7) ls[m + 1] := by rw [hwq]; exact HY.out.drewN nq
      have hbq : Below w.heap.size w wq := by rw [hwq]; exact bl_drewN (Below.refl _ _) nq
      rw [← hwq]
      have HQ := Lib.hid hwq
      have hgq := HXq.lt
      have HXQ := Lib.hid HXq
      have HYQ := Lib.hid HYq
      clear hwq HXq HYq
      go_region_with (go_at_call 13; first
        | (refine (HJ.out (wq.drew) HXQ.out.drew HYQ.out.drew).mono ?_; rintro e w1 ⟨rfl, hb1⟩)
        | (refine (HJ.out ((wq.drew).alloc (.cells #[.int .i64 0, .int .i64 0, .int .i64 0, .int .i64 0, .int .i64 0, .int .i64 0, .int .i64 0] 34)) (HXQ.out.drew.below (bl_alloc (Below.refl _ _) _) HXQ.out.drew.lt) (HYQ.out.drew.below (bl_alloc (Below.refl _ _) _) HYQ.out.drew.lt)).mono ?_; rintro e w1 ⟨rfl, hb1⟩; have hk1 : w1.heap[wq.heap.size]? = some (.cells #[.int .i64 0, .int .i64 0, .int .i64 0, .int .i64 0, .int .i64 0, .int .i64 0, .int .i64 0] 34 (0, 0)) := (hb1.block wq.heap.size (by simp)).trans (heap_alloc_new wq.drew _); have z0 : w1.cell? ⟨wq.heap.size, 0, none⟩ = some (.int .i64 0) := (cell_of_row _ _ _ _ _ (0, 0) hk1).trans rfl; have z1 : w1.cell? ⟨wq.heap.size, 1, none⟩ = some (.int .i64 0) := (cell_of_row _ _ _ _ _ (0, 0) hk1).trans rfl; have z2 : w1.cell? ⟨wq.heap.size, 2, none⟩ = some (.int .i64 0) := (cell_of_row _ _ _ _ _ (0, 0) hk1).trans rfl; have z3 : w1.cell? ⟨wq.heap.size, 3, none⟩ = some (.int .i64 0) := (cell_of_row _ _ _ _ _ (0, 0) hk1).trans rfl; have z4 : w1.cell? ⟨wq.heap.size, 4, none⟩ = some (.int .i64 0) := (cell_of_row _ _ _ _ _ (0, 0) hk1).trans rfl; have z5 : w1.cell? ⟨wq.heap.size, 5, none⟩ = some (.int .i64 0) := (cell_of_row _ _ _ _ _ (0, 0) hk1).trans rfl; have z6 : w1.cell? ⟨wq.heap.size, 6, none⟩ = some (.int .i64 0) := (cell_of_row _ _ _ _ _ (0, 0) hk1).trans rfl; have f0 := frozen_of_row w1 wq.heap.size 0 _ _ hk1; have f1 := frozen_of_row w1 wq.heap.size 1 _ _ hk1; have f2 := frozen_of_row w1 wq.heap.size 2 _ _ hk1; have f3 := frozen_of_row w1 wq.heap.size 3 _ _ hk1; have f4 := frozen_of_row w1 wq.heap.size 4 _ _ hk1; have f5 := frozen_of_row w1 wq.heap.size 5 _ _ hk1; have f6 := frozen_of_row w1 wq.heap.size 6 _ _ hk1; have HK1 := Lib.hid hk1; clear hk1))
      all_goals
        have hbz := hb1
        have hbz' : Below wq.heap.size wq w1 := by first | exact (Below.refl wq.heap.size wq).drew.trans hbz | exact (bl_alloc (Below.refl wq.heap.size wq).drew _).trans (hbz.mono (by simp))
        clear hbz
        first
          | (obtain ⟨w2, hw2⟩ : ∃ w2, w2 = w1.alloc (.cells #[.int .i64 J.form, .int .i64 J.ice, .int .i64 J.water, .int .i64 J.dens, .int .i64 J.deg, .int .i64 J.hard, .int .i64 J.age] 34) := ⟨_, rfl⟩
             have hL : LyAt w2 w1.heap.size 0 J := hw2 ▸ LyAt.new w1 _ J
             have hb2 : Below wq.heap.size wq w2 := hw2 ▸ bl_alloc hbz' _
             rw [← hw2]
             clear hw2
             obtain ⟨p, hp⟩ : ∃ p, p = w1.heap.size := ⟨_, rfl⟩
             rw [← hp] at hL
             rw [← hp])
          | (obtain ⟨w2, hw2⟩ : ∃ w2, w2 = (((((((w1.setCell ⟨wq.heap.size, 0, none⟩ (.int .i64 J.form)).setCell ⟨wq.heap.size, 1, none⟩ (.int .i64 J.ice)).setCell ⟨wq.heap.size, 2, none⟩ (.int .i64 J.water)).setCell ⟨wq.heap.size, 3, none⟩ (.int .i64 J.dens)).setCell ⟨wq.heap.size, 4, none⟩ (.int .i64 J.deg)).setCell ⟨wq.heap.size, 5, none⟩ (.int .i64 J.hard)).setCell ⟨wq.heap.size, 6, none⟩ (.int .i64 J.age)) := ⟨_, rfl⟩
             have hL : LyAt w2 wq.heap.size 0 J := hw2 ▸ LyAt.put7 HK1.out J
             have hb2 : Below wq.heap.size wq w2 := hw2 ▸ below_put7 hbz' (Nat.le_refl _) J
             rw [← hw2]
             clear hw2 z0 z1 z2 z3 z4 z5 z6 f0 f1 f2 f3 f4 f5 f6
             obtain ⟨p, hp⟩ : ∃ p, p = wq.heap.size := ⟨_, rfl⟩
             rw [← hp] at hL
             rw [← hp])
        clear hb1 hp
        have hb := bl_trans hbq hb2
        clear hbz'
        have hBw := hb.size
        have hpl := hL.lt
        have hr1 := HR.out.below hb
        obtain ⟨A1, c1, hs1, hd1⟩ := slice_to (some ⟨g, o, none⟩) c ls m (m : Int) rfl (by omega) hc
        obtain ⟨A2, c2, hs2, hd2⟩ := slice_from (some ⟨g, o, none⟩) c ls (m + 2) ((m : Int) + 2) (by omega) (by omega) hc
        have HR1 := Lib.hid (hd1 w2 hr1)
        have HR2 := Lib.hid (hd2 w2 hr1)
        have l1 : (ls.take m).length ≤ 16 := by rw [List.length_take]; omega
        have l2 : (ls.drop (m + 2)).length ≤ 16 := by rw [List.length_drop]; omega
        clear hr1 hd1 hd2
        have HL := Lib.hid hL
        generalize ls.take m = pre at *
        generalize ls.drop (m + 2) = post at *
        go_wp2_with fail
        refine (l03One_any J p 0 _ hL).mono ?_
        rintro e w3 ⟨rfl, rfl⟩
        clear hL
        go_wp2_with (first
          | (at_builtin; refine wpList_appL _ rfl (.tmp 39) (.tmp 42) rfl w2.heap.size _ [] pre A1 c1 rfl rfl (OwnS.made0' _ _ _ rfl (Nat.le_refl _)) (HR1.out.below (bl_alloc (Below.refl _ _) _)) (by simp; omega) (by simp) ?_; intro v1 w4 ho1 hb4 _; have hb14 := (bl_alloc (Below.refl w2.heap.size w2) (.cells #[] 34)).trans hb4; obtain ⟨a0, a1, a2, a3, a4, a5, a6⟩ := (HL.out.below hb14 hpl).box; have HO1 := Lib.hid ho1; clear ho1)
          | (at_builtin; refine wpList_appL _ rfl (.tmp 44) (.tmp 46) rfl w2.heap.size _ pre [J] _ _ rfl rfl (OwnS.below HO1.out (bl_alloc (Below.refl _ _) _)) (RdL.one (LyAt.new' _ _ _ _ rfl)) (by simp; omega) (by have := hb14.size; simp; omega) ?_; intro v2 w5 ho2 hb5 _; have HO2 := Lib.hid ho2; clear ho2; have hb15 := (hb14.alloc hb14.size _).trans hb5)
          | (at_builtin; refine wpList_appL _ rfl (.tmp 48) (.tmp 52) rfl w2.heap.size _ (pre ++ [J]) post A2 c2 rfl rfl HO2.out (HR2.out.below hb15) (by simp; omega) hb15.size ?_; intro v3 w6 ho3 hb6 _))
        go_ret2
        exact ⟨v3, by rw [F.out.2]; rfl, by rw [F.out.1]; exact ho3.mono hBw, hb.trans ((hb15.trans hb6).mono hBw)⟩
  · have F := Lib.hid (join_6 hm hok hin hf)
    have hfb : (ls[m].form != ls[m + 1].form) = true := by simpa using hf
    have c0 := hx.c0
    have k0 := hy.c0
    go_enter Try.func5, Try.ntmps5
    go_wp2_with (first | (go_at_call 11; refine (l03Ok_any _ c ls _ hr hn).mono ?_; rintro e w' ⟨rfl, rfl⟩) | (go_at_call 12; refine (l00In_any _ _ _ _).mono ?_; rintro e w' ⟨rfl, rfl⟩))
    go_quiet (fail)
    go_wp2_with fail
    go_ret2
    exact ⟨_, by rw [F.out.2]; rfl, by rw [F.out.1]; exact OwnS.nil _ _, bl_drewN (Below.refl _ _) _⟩
end Go.Proofs.Ythlandlpjhdbdaa
