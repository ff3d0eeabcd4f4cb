/- The contracts of the program's and of the reference's SettleLayer. -/
import Derived.Test.YtgjdljfhdaeeeaaSettle
namespace Go.Proofs.Ytgjdljfhdaeeeaa
open Go.ChangeShapes Go.WideShapes Go.ChangeAt Go.RowKit Go.Joins Go.Deep
set_option linter.unusedVariables false
def zeroLy : Ly := ⟨0, 0, 0, 0, 0, 0, 0⟩
def settleR (x : Ly) (load : Int) : Ly := if lyOk x then (if inB load 0 32000000 then settleF x load else zeroLy) else zeroLy
def settleC (x : Ly) (load : Int) : Int := if lyOk x then (if inB load 0 32000000 then 0 else 2) else 1
theorem sR_1 {x : Ly} {load : Int} (h : lyOk x = false) : settleR x load = zeroLy ∧ settleC x load = 1 := by unfold settleR settleC; rw [h]; exact ⟨rfl, rfl⟩
theorem sR_2 {x : Ly} {load : Int} (h : lyOk x = true) (k : inB load 0 32000000 = false) : settleR x load = zeroLy ∧ settleC x load = 2 := by unfold settleR settleC; rw [h, k]; exact ⟨rfl, rfl⟩
theorem sR_0 {x : Ly} {load : Int} (h : lyOk x = true) (k : inB load 0 32000000 = true) : settleR x load = settleF x load ∧ settleC x load = 0 := by unfold settleR settleC; rw [h, k]; exact ⟨rfl, rfl⟩
/-- The box of the argument and the box of the result. -/
theorem two_boxes (w : World) (t : TypeId) (x : Ly) : LyAt ((w.alloc (.cells #[.int .i64 x.form, .int .i64 x.ice, .int .i64 x.water, .int .i64 x.dens, .int .i64 x.deg, .int .i64 x.hard, .int .i64 x.age] t)).alloc (.cells #[.int .i64 0, .int .i64 0, .int .i64 0, .int .i64 0, .int .i64 0, .int .i64 0, .int .i64 0] t)) w.heap.size 0 x ∧
    LyAt ((w.alloc (.cells #[.int .i64 x.form, .int .i64 x.ice, .int .i64 x.water, .int .i64 x.dens, .int .i64 x.deg, .int .i64 x.hard, .int .i64 x.age] t)).alloc (.cells #[.int .i64 0, .int .i64 0, .int .i64 0, .int .i64 0, .int .i64 0, .int .i64 0, .int .i64 0] t)) (w.heap.size + 1) 0 zeroLy := by
  refine ⟨(LyAt.new w t x).of_block (Below.heap_alloc _ _ _ (by simp)), ?_⟩
  have := LyAt.new (w.alloc (.cells #[.int .i64 x.form, .int .i64 x.ice, .int .i64 x.water, .int .i64 x.dens, .int .i64 x.deg, .int .i64 x.hard, .int .i64 x.age] t)) t zeroLy
  rwa [show (w.alloc (.cells #[.int .i64 x.form, .int .i64 x.ice, .int .i64 x.water, .int .i64 x.dens, .int .i64 x.deg, .int .i64 x.hard, .int .i64 x.age] t)).heap.size = w.heap.size + 1 from by simp] at this
theorem LyAt.z {w : World} {g : Nat} (h : LyAt w g 0 zeroLy) : w.cell? ⟨g, 0, none⟩ = some (.int .i64 0) ∧ w.cell? ⟨g, 1, none⟩ = some (.int .i64 0) ∧ w.cell? ⟨g, 2, none⟩ = some (.int .i64 0) ∧ w.cell? ⟨g, 3, none⟩ = some (.int .i64 0) ∧ w.cell? ⟨g, 4, none⟩ = some (.int .i64 0) ∧ w.cell? ⟨g, 5, none⟩ = some (.int .i64 0) ∧ w.cell? ⟨g, 6, none⟩ = some (.int .i64 0) :=
  ⟨h.c0, h.c1, h.c2, h.c3, h.c4, h.c5, h.c6⟩
theorem two_frozen (w : World) (a b : Array Value) (t : TypeId) (j : Nat) : ((w.alloc (.cells a t)).alloc (.cells b t)).frozen? ⟨w.heap.size + 1, j, none⟩ = false :=
  frozen_of_row _ (w.heap.size + 1) j b t (heap_alloc2_new w _ _)
theorem l05Load_any (n : Int) (w : World) : Calls Try.prog 36 #[.int .i64 n] w fun e w' => e = .returned (.bool (inB n 0 32000000)) ∧ w = w' := by
  go_enter Try.func36, Try.ntmps36
  go_wp2_with (go_at_call 56; refine (l00In_any _ _ _ _).mono ?_; rintro e w' ⟨rfl, rfl⟩)
  go_ret
  exact ⟨rfl, rfl⟩
set_option maxHeartbeats 1000000 in
theorem specSettle_any (x : Ly) (load : Int) (w : World) : Calls Try.prog 14 #[.agg #[.int .i64 x.form, .int .i64 x.ice, .int .i64 x.water, .int .i64 x.dens, .int .i64 x.deg, .int .i64 x.hard, .int .i64 x.age], .int .i64 load] w fun e w' => e = .returned (.tuple #[.agg #[.int .i64 (settleR x load).form, .int .i64 (settleR x load).ice, .int .i64 (settleR x load).water, .int .i64 (settleR x load).dens, .int .i64 (settleR x load).deg, .int .i64 (settleR x load).hard, .int .i64 (settleR x load).age], .int .i64 (settleC x load)]) ∧ Below w.heap.size w w' := by
  obtain ⟨hl, hz⟩ := two_boxes w 26 x
  rcases h : lyOk x with _ | _
  · have F := Lib.hid (sR_1 (load := load) h)
    go_enter Try.func14, Try.ntmps14
    go_wp2_with (first | (go_at_call 32; refine (l03One_any x _ _ _ hl).mono ?_; rintro e w' ⟨rfl, rfl⟩) | (go_at_call 36; refine (l05Load_any _ _).mono ?_; rintro e w' ⟨rfl, rfl⟩))
    refine bodyPost_ret (v := .tuple #[.agg #[.int .i64 0, .int .i64 0, .int .i64 0, .int .i64 0, .int .i64 0, .int .i64 0, .int .i64 0], .int .i64 1]) (by simp [results, Try.results14, go_sem]) rfl ⟨by rw [F.out.1, F.out.2]; rfl, ?_⟩
    repeat (first | exact Below.refl _ _ | apply bl_alloc)
  rcases k : inB load 0 32000000 with _ | _
  · have F := Lib.hid (sR_2 h k)
    go_enter Try.func14, Try.ntmps14
    go_wp2_with (first | (go_at_call 32; refine (l03One_any x _ _ _ hl).mono ?_; rintro e w' ⟨rfl, rfl⟩) | (go_at_call 36; refine (l05Load_any _ _).mono ?_; rintro e w' ⟨rfl, rfl⟩))
    refine bodyPost_ret (v := .tuple #[.agg #[.int .i64 0, .int .i64 0, .int .i64 0, .int .i64 0, .int .i64 0, .int .i64 0, .int .i64 0], .int .i64 2]) (by simp [results, Try.results14, go_sem]) rfl ⟨by rw [F.out.1, F.out.2]; rfl, ?_⟩
    repeat (first | exact Below.refl _ _ | apply bl_alloc)
  have F := Lib.hid (sR_0 h k)
  have hB := lyOk_b h
  obtain ⟨l0, l1⟩ := inB_yes k
  go_enter Try.func14, Try.ntmps14
  go_wp2_with (first | (go_at_call 32; refine (l03One_any x _ _ _ hl).mono ?_; rintro e w' ⟨rfl, rfl⟩) | (go_at_call 36; refine (l05Load_any _ _).mono ?_; rintro e w' ⟨rfl, rfl⟩))
  refine (l05Settle_any x _ _ _ _ hB hl l0 l1).mono ?_
  rintro e w2 ⟨rfl, hb2⟩
  have hz2 := hz.below hb2 (by simp)
  obtain ⟨z0, z1, z2, z3, z4, z5, z6⟩ := hz2.z
  have fz0 := (hb2.frozen (p := ⟨w.heap.size + 1, 0, none⟩) (by simp)).trans (two_frozen w _ _ 26 0)
  have fz1 := (hb2.frozen (p := ⟨w.heap.size + 1, 1, none⟩) (by simp)).trans (two_frozen w _ _ 26 1)
  have fz2 := (hb2.frozen (p := ⟨w.heap.size + 1, 2, none⟩) (by simp)).trans (two_frozen w _ _ 26 2)
  have fz3 := (hb2.frozen (p := ⟨w.heap.size + 1, 3, none⟩) (by simp)).trans (two_frozen w _ _ 26 3)
  have fz4 := (hb2.frozen (p := ⟨w.heap.size + 1, 4, none⟩) (by simp)).trans (two_frozen w _ _ 26 4)
  have fz5 := (hb2.frozen (p := ⟨w.heap.size + 1, 5, none⟩) (by simp)).trans (two_frozen w _ _ 26 5)
  have fz6 := (hb2.frozen (p := ⟨w.heap.size + 1, 6, none⟩) (by simp)).trans (two_frozen w _ _ 26 6)
  go_wp2_with fail
  skip
  refine bodyPost_ret (v := .tuple #[.agg #[.int .i64 x.form, .int .i64 x.ice, .int .i64 x.water, .int .i64 (settleD x.dens load), .int .i64 x.deg, .int .i64 x.hard, .int .i64 (settleA x.age)], .int .i64 0]) (by simp [results, Try.results14, go_sem, z0, z1, z2, z3, z4, z5, z6]) rfl ⟨by rw [F.out.1, F.out.2]; rfl, ?_⟩
  refine bl_set (bl_set (bl_set (bl_set (bl_set (bl_set (bl_set ?_ _ _ (by omega) _) _ _ (by omega) _) _ _ (by omega) _) _ _ (by omega) _) _ _ (by omega) _) _ _ (by omega) _) _ _ (by omega) _
  exact bl_trans (bl_alloc (bl_alloc (Below.refl _ _) _) _) hb2
set_option maxHeartbeats 1000000 in
theorem implSettle_any (x : Ly) (load : Int) (w : World) : Calls Try.prog 15 #[.agg #[.int .i64 x.form, .int .i64 x.ice, .int .i64 x.water, .int .i64 x.dens, .int .i64 x.deg, .int .i64 x.hard, .int .i64 x.age], .int .i64 load] w fun e w' => e = .returned (.tuple #[.agg #[.int .i64 (settleR x load).form, .int .i64 (settleR x load).ice, .int .i64 (settleR x load).water, .int .i64 (settleR x load).dens, .int .i64 (settleR x load).deg, .int .i64 (settleR x load).hard, .int .i64 (settleR x load).age], .int .i64 (settleC x load)]) ∧ Below w.heap.size w w' := by
  obtain ⟨hl, hz⟩ := two_boxes w 26 x
  rcases h : lyOk x with _ | _
  · have F := Lib.hid (sR_1 (load := load) h)
    go_enter Try.func15, Try.ntmps15
    go_wp2_with fail
    refine (validLayer_any x _).mono ?_
    rintro e w1 ⟨rfl, hb1⟩
    have hz2 := hz.below hb1 (by simp)
    obtain ⟨z0, z1, z2, z3, z4, z5, z6⟩ := hz2.z
    have fz0 := (hb1.frozen (p := ⟨w.heap.size + 1, 0, none⟩) (by simp)).trans (two_frozen w _ _ 26 0)
    have fz1 := (hb1.frozen (p := ⟨w.heap.size + 1, 1, none⟩) (by simp)).trans (two_frozen w _ _ 26 1)
    have fz2 := (hb1.frozen (p := ⟨w.heap.size + 1, 2, none⟩) (by simp)).trans (two_frozen w _ _ 26 2)
    have fz3 := (hb1.frozen (p := ⟨w.heap.size + 1, 3, none⟩) (by simp)).trans (two_frozen w _ _ 26 3)
    have fz4 := (hb1.frozen (p := ⟨w.heap.size + 1, 4, none⟩) (by simp)).trans (two_frozen w _ _ 26 4)
    have fz5 := (hb1.frozen (p := ⟨w.heap.size + 1, 5, none⟩) (by simp)).trans (two_frozen w _ _ 26 5)
    have fz6 := (hb1.frozen (p := ⟨w.heap.size + 1, 6, none⟩) (by simp)).trans (two_frozen w _ _ 26 6)
    go_wp2_with fail
    refine bodyPost_ret (v := .tuple #[.agg #[.int .i64 0, .int .i64 0, .int .i64 0, .int .i64 0, .int .i64 0, .int .i64 0, .int .i64 0], .int .i64 1]) (by simp [results, Try.results15, go_sem, z0, z1, z2, z3, z4, z5, z6]) rfl ⟨by rw [F.out.1, F.out.2]; rfl, ?_⟩
    refine bl_set (bl_set (bl_set (bl_set (bl_set (bl_set (bl_set ?_ _ _ (by omega) _) _ _ (by omega) _) _ _ (by omega) _) _ _ (by omega) _) _ _ (by omega) _) _ _ (by omega) _) _ _ (by omega) _
    exact bl_trans (bl_alloc (bl_alloc (Below.refl _ _) _) _) hb1
  rcases k : inB load 0 32000000 with _ | _
  · have F := Lib.hid (sR_2 h k)
    go_enter Try.func15, Try.ntmps15
    go_wp2_with fail
    refine (validLayer_any x _).mono ?_
    rintro e w1 ⟨rfl, hb1⟩
    have hz2 := hz.below hb1 (by simp)
    obtain ⟨z0, z1, z2, z3, z4, z5, z6⟩ := hz2.z
    have fz0 := (hb1.frozen (p := ⟨w.heap.size + 1, 0, none⟩) (by simp)).trans (two_frozen w _ _ 26 0)
    have fz1 := (hb1.frozen (p := ⟨w.heap.size + 1, 1, none⟩) (by simp)).trans (two_frozen w _ _ 26 1)
    have fz2 := (hb1.frozen (p := ⟨w.heap.size + 1, 2, none⟩) (by simp)).trans (two_frozen w _ _ 26 2)
    have fz3 := (hb1.frozen (p := ⟨w.heap.size + 1, 3, none⟩) (by simp)).trans (two_frozen w _ _ 26 3)
    have fz4 := (hb1.frozen (p := ⟨w.heap.size + 1, 4, none⟩) (by simp)).trans (two_frozen w _ _ 26 4)
    have fz5 := (hb1.frozen (p := ⟨w.heap.size + 1, 5, none⟩) (by simp)).trans (two_frozen w _ _ 26 5)
    have fz6 := (hb1.frozen (p := ⟨w.heap.size + 1, 6, none⟩) (by simp)).trans (two_frozen w _ _ 26 6)
    go_wp2_with (go_at_call 38; refine (within_any _ _ _ _).mono ?_; rintro e w' ⟨rfl, rfl⟩)
    refine bodyPost_ret (v := .tuple #[.agg #[.int .i64 0, .int .i64 0, .int .i64 0, .int .i64 0, .int .i64 0, .int .i64 0, .int .i64 0], .int .i64 2]) (by simp [results, Try.results15, go_sem, z0, z1, z2, z3, z4, z5, z6]) rfl ⟨by rw [F.out.1, F.out.2]; rfl, ?_⟩
    refine bl_set (bl_set (bl_set (bl_set (bl_set (bl_set (bl_set ?_ _ _ (by omega) _) _ _ (by omega) _) _ _ (by omega) _) _ _ (by omega) _) _ _ (by omega) _) _ _ (by omega) _) _ _ (by omega) _
    exact bl_trans (bl_alloc (bl_alloc (Below.refl _ _) _) _) hb1
  have F := Lib.hid (sR_0 h k)
  have hB := lyOk_b h
  obtain ⟨l0, l1⟩ := inB_yes k
  go_enter Try.func15, Try.ntmps15
  go_wp2_with fail
  refine (validLayer_any x _).mono ?_
  rintro e w1 ⟨rfl, hb1⟩
  have hz2 := hz.below hb1 (by simp)
  obtain ⟨z0, z1, z2, z3, z4, z5, z6⟩ := hz2.z
  have fz0 := (hb1.frozen (p := ⟨w.heap.size + 1, 0, none⟩) (by simp)).trans (two_frozen w _ _ 26 0)
  have fz1 := (hb1.frozen (p := ⟨w.heap.size + 1, 1, none⟩) (by simp)).trans (two_frozen w _ _ 26 1)
  have fz2 := (hb1.frozen (p := ⟨w.heap.size + 1, 2, none⟩) (by simp)).trans (two_frozen w _ _ 26 2)
  have fz3 := (hb1.frozen (p := ⟨w.heap.size + 1, 3, none⟩) (by simp)).trans (two_frozen w _ _ 26 3)
  have fz4 := (hb1.frozen (p := ⟨w.heap.size + 1, 4, none⟩) (by simp)).trans (two_frozen w _ _ 26 4)
  have fz5 := (hb1.frozen (p := ⟨w.heap.size + 1, 5, none⟩) (by simp)).trans (two_frozen w _ _ 26 5)
  have fz6 := (hb1.frozen (p := ⟨w.heap.size + 1, 6, none⟩) (by simp)).trans (two_frozen w _ _ 26 6)
  obtain ⟨c0, c1, c2, c3, c4, c5, c6⟩ := (hl.below hb1 (by simp; omega)).box
  go_wp2_with (go_at_call 38; refine (within_any _ _ _ _).mono ?_; rintro e w' ⟨rfl, rfl⟩)
  clear c0 c1 c2 c3 c4 c5 c6 z0 z1 z2 z3 z4 z5 z6
  refine (settled_any x _ _ hB l0 l1).mono ?_
  rintro e w2 ⟨rfl, hb2⟩
  have m1 : w.heap.size + 1 < w1.heap.size := Nat.lt_of_lt_of_le (by simp) hb1.size
  have hz3 := hz2.below hb2 m1
  obtain ⟨z0, z1, z2, z3, z4, z5, z6⟩ := hz3.z
  have gz0 := (hb2.frozen (p := ⟨w.heap.size + 1, 0, none⟩) m1).trans fz0
  have gz1 := (hb2.frozen (p := ⟨w.heap.size + 1, 1, none⟩) m1).trans fz1
  have gz2 := (hb2.frozen (p := ⟨w.heap.size + 1, 2, none⟩) m1).trans fz2
  have gz3 := (hb2.frozen (p := ⟨w.heap.size + 1, 3, none⟩) m1).trans fz3
  have gz4 := (hb2.frozen (p := ⟨w.heap.size + 1, 4, none⟩) m1).trans fz4
  have gz5 := (hb2.frozen (p := ⟨w.heap.size + 1, 5, none⟩) m1).trans fz5
  have gz6 := (hb2.frozen (p := ⟨w.heap.size + 1, 6, none⟩) m1).trans fz6
  clear fz0 fz1 fz2 fz3 fz4 fz5 fz6
  go_wp2_with fail
  refine bodyPost_ret (v := .tuple #[.agg #[.int .i64 x.form, .int .i64 x.ice, .int .i64 x.water, .int .i64 (settleD x.dens load), .int .i64 x.deg, .int .i64 x.hard, .int .i64 (settleA x.age)], .int .i64 0]) (by simp [results, Try.results15, go_sem, z0, z1, z2, z3, z4, z5, z6]) rfl ⟨by rw [F.out.1, F.out.2]; rfl, ?_⟩
  refine bl_set (bl_set (bl_set (bl_set (bl_set (bl_set (bl_set ?_ _ _ (by omega) _) _ _ (by omega) _) _ _ (by omega) _) _ _ (by omega) _) _ _ (by omega) _) _ _ (by omega) _) _ _ (by omega) _
  exact bl_trans (bl_trans (bl_alloc (bl_alloc (Below.refl _ _) _) _) hb1) hb2
end Go.Proofs.Ytgjdljfhdaeeeaa
