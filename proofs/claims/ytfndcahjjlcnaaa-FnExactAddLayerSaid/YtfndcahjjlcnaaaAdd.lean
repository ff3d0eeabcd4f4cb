/- AddLayer: the contracts of the program's and of the reference's function. No condition. -/
import Derived.Test.YtfndcahjjlcnaaaMark
import Derived.Test.YtfndcahjjlcnaaaOkL
import Derived.Deep.RegionHeld3
import Derived.Deep.RegionLaw
import Derived.Deep.DeepCutAuto
namespace Go.Proofs.Ytfndcahjjlcnaaa
open Go.ChangeShapes Go.WideShapes Go.ChangeAt Go.RowKit Go.Joins Go.Deep
set_option linter.unusedVariables false
/-- The call returns a list of its own that reads as R, and a code. -/
def GivesLC (w : World) (R : List Ly) (code : Int) (e : Ending) (w' : World) : Prop := ∃ v, e = .returned (.tuple #[v, .int .i64 code]) ∧ OwnS w' w.heap.size v R ∧ Below w.heap.size w w'
def addC (ls : List Ly) (x : Ly) : Int := if okL ls && lyOk x then (if ls.length = 16 then 5 else 0) else 1
def addR (ls : List Ly) (x : Ly) : List Ly := if addC ls x = 0 then ls ++ [x] else []
theorem add_1 {ls : List Ly} {x : Ly} (h : (okL ls && lyOk x) = false) : addR ls x = [] ∧ addC ls x = 1 := by
  have : addC ls x = 1 := by unfold addC; rw [h]; rfl
  exact ⟨by unfold addR; rw [this]; rfl, this⟩
theorem add_5 {ls : List Ly} {x : Ly} (h : okL ls = true) (h2 : lyOk x = true) (h3 : ls.length = 16) : addR ls x = [] ∧ addC ls x = 5 := by
  have : addC ls x = 5 := by unfold addC; rw [h, h2, if_pos (by rfl), if_pos h3]
  exact ⟨by unfold addR; rw [this]; rfl, this⟩
theorem add_0 {ls : List Ly} {x : Ly} (h : okL ls = true) (h2 : lyOk x = true) (h3 : ¬ ls.length = 16) : addR ls x = ls ++ [x] ∧ addC ls x = 0 := by
  have : addC ls x = 0 := by unfold addC; rw [h, h2, if_pos (by rfl), if_neg h3]
  exact ⟨by unfold addR; rw [this]; rfl, this⟩
theorem S7_step {w1 a b : World} {p : Nat} {x : Ly} (hp : p < w1.heap.size) (h : a.cell? ⟨p, 0, none⟩ = some (.int .i64 x.form) ∧ a.cell? ⟨p, 1, none⟩ = some (.int .i64 x.ice) ∧ a.cell? ⟨p, 2, none⟩ = some (.int .i64 x.water) ∧ a.cell? ⟨p, 3, none⟩ = some (.int .i64 x.dens) ∧ a.cell? ⟨p, 4, none⟩ = some (.int .i64 x.deg) ∧ a.cell? ⟨p, 5, none⟩ = some (.int .i64 x.hard) ∧ a.cell? ⟨p, 6, none⟩ = some (.int .i64 x.age) ∧ Below w1.heap.size w1 a) (hb : Below w1.heap.size a b) :
    b.cell? ⟨p, 0, none⟩ = some (.int .i64 x.form) ∧ b.cell? ⟨p, 1, none⟩ = some (.int .i64 x.ice) ∧ b.cell? ⟨p, 2, none⟩ = some (.int .i64 x.water) ∧ b.cell? ⟨p, 3, none⟩ = some (.int .i64 x.dens) ∧ b.cell? ⟨p, 4, none⟩ = some (.int .i64 x.deg) ∧ b.cell? ⟨p, 5, none⟩ = some (.int .i64 x.hard) ∧ b.cell? ⟨p, 6, none⟩ = some (.int .i64 x.age) ∧ Below w1.heap.size w1 b := by
  obtain ⟨c0, c1, c2, c3, c4, c5, c6, hB⟩ := h
  exact ⟨(hb.cell (p := ⟨p, _, none⟩) hp).trans c0, (hb.cell (p := ⟨p, _, none⟩) hp).trans c1, (hb.cell (p := ⟨p, _, none⟩) hp).trans c2, (hb.cell (p := ⟨p, _, none⟩) hp).trans c3, (hb.cell (p := ⟨p, _, none⟩) hp).trans c4, (hb.cell (p := ⟨p, _, none⟩) hp).trans c5, (hb.cell (p := ⟨p, _, none⟩) hp).trans c6, hB.trans hb⟩
theorem S7_stepA {w1 a b : World} {p : Nat} {x : Ly} (hp : p < w1.heap.size) (h : a.cell? ⟨p, 0, none⟩ = some (.int .i64 x.form) ∧ a.cell? ⟨p, 1, none⟩ = some (.int .i64 x.ice) ∧ a.cell? ⟨p, 2, none⟩ = some (.int .i64 x.water) ∧ a.cell? ⟨p, 3, none⟩ = some (.int .i64 x.dens) ∧ a.cell? ⟨p, 4, none⟩ = some (.int .i64 x.deg) ∧ a.cell? ⟨p, 5, none⟩ = some (.int .i64 x.hard) ∧ a.cell? ⟨p, 6, none⟩ = some (.int .i64 x.age) ∧ Below w1.heap.size w1 a) (hb : Below a.heap.size a b) :
    b.cell? ⟨p, 0, none⟩ = some (.int .i64 x.form) ∧ b.cell? ⟨p, 1, none⟩ = some (.int .i64 x.ice) ∧ b.cell? ⟨p, 2, none⟩ = some (.int .i64 x.water) ∧ b.cell? ⟨p, 3, none⟩ = some (.int .i64 x.dens) ∧ b.cell? ⟨p, 4, none⟩ = some (.int .i64 x.deg) ∧ b.cell? ⟨p, 5, none⟩ = some (.int .i64 x.hard) ∧ b.cell? ⟨p, 6, none⟩ = some (.int .i64 x.age) ∧ Below w1.heap.size w1 b := by
  obtain ⟨c0, c1, c2, c3, c4, c5, c6, hB⟩ := h
  exact S7_step hp ⟨c0, c1, c2, c3, c4, c5, c6, hB⟩ (hb.mono hB.size)
theorem S7_bl {w1 a : World} {p : Nat} {x : Ly} (h : a.cell? ⟨p, 0, none⟩ = some (.int .i64 x.form) ∧ a.cell? ⟨p, 1, none⟩ = some (.int .i64 x.ice) ∧ a.cell? ⟨p, 2, none⟩ = some (.int .i64 x.water) ∧ a.cell? ⟨p, 3, none⟩ = some (.int .i64 x.dens) ∧ a.cell? ⟨p, 4, none⟩ = some (.int .i64 x.deg) ∧ a.cell? ⟨p, 5, none⟩ = some (.int .i64 x.hard) ∧ a.cell? ⟨p, 6, none⟩ = some (.int .i64 x.age) ∧ Below w1.heap.size w1 a) : Below w1.heap.size w1 a := by
  obtain ⟨_, _, _, _, _, _, _, h⟩ := h
  exact h
set_option maxHeartbeats 1000000 in
theorem specAdd_any (A : Option Addr) (c : Nat) (ls : List Ly) (x : Ly) (w : World) (hr : RdL w A ls) (hn : ls.length ≤ 1048576) :
    Calls Try.prog 23 #[.slice A ls.length c, .agg #[.int .i64 x.form, .int .i64 x.ice, .int .i64 x.water, .int .i64 x.dens, .int .i64 x.deg, .int .i64 x.hard, .int .i64 x.age]] w (GivesLC w (addR ls x) (addC ls x)) := by
  have hl := LyAt.new w 41 x
  have hr1 := hr.below (bl_alloc (Below.refl w.heap.size w) (.cells #[.int .i64 x.form, .int .i64 x.ice, .int .i64 x.water, .int .i64 x.dens, .int .i64 x.deg, .int .i64 x.hard, .int .i64 x.age] 41))
  rcases hok : okL ls with _ | _
  · have F := Lib.hid (add_1 (ls := ls) (x := x) (by rw [hok]; rfl))
    go_enter Try.func23, Try.ntmps23
    go_wp2_with (go_at_call 30; refine (l03Ok_any A c ls _ hr1 hn).mono ?_; rintro e w' ⟨rfl, rfl⟩)
    go_ret2
    exact ⟨_, by rw [F.out.2]; rfl, by rw [F.out.1]; exact OwnS.nil _ _, bl_alloc (Below.refl _ _) _⟩
  rcases hx : lyOk x with _ | _
  · have F := Lib.hid (add_1 (ls := ls) (x := x) (by rw [hok, hx]; rfl))
    go_enter Try.func23, Try.ntmps23
    go_wp2_with (first | (go_at_call 30; refine (l03Ok_any A c ls _ hr1 hn).mono ?_; rintro e w' ⟨rfl, rfl⟩) | (go_at_call 53; refine (l03One_any x _ _ _ hl).mono ?_; rintro e w' ⟨rfl, rfl⟩))
    go_ret2
    exact ⟨_, by rw [F.out.2]; rfl, by rw [F.out.1]; exact OwnS.nil _ _, bl_alloc (Below.refl _ _) _⟩
  by_cases h16 : ls.length = 16
  · have F := Lib.hid (add_5 hok hx h16)
    have H16 := Lib.hid h16
    have hc16 : ((ls.length : Int) == 16) = true := by simp [h16]
    clear h16
    go_enter Try.func23, Try.ntmps23
    go_wp2_with (first | (go_at_call 30; refine (l03Ok_any A c ls _ hr1 hn).mono ?_; rintro e w' ⟨rfl, rfl⟩) | (go_at_call 53; refine (l03One_any x _ _ _ hl).mono ?_; rintro e w' ⟨rfl, rfl⟩))
    go_ret2
    exact ⟨_, by rw [F.out.2]; rfl, by rw [F.out.1]; exact OwnS.nil _ _, bl_alloc (Below.refl _ _) _⟩
  have F := Lib.hid (add_0 hok hx h16)
  have hc16 : ((ls.length : Int) == 16) = false := by simp; omega
  have h16' := okL_len hok
  go_enter Try.func23, Try.ntmps23
  go_wp2_with (first | (go_at_call 30; refine (l03Ok_any A c ls _ hr1 hn).mono ?_; rintro e w' ⟨rfl, rfl⟩) | (go_at_call 53; refine (l03One_any x _ _ _ hl).mono ?_; rintro e w' ⟨rfl, rfl⟩))
  have hb := bl_alloc (Below.refl w.heap.size w) (.cells #[.int .i64 x.form, .int .i64 x.ice, .int .i64 x.water, .int .i64 x.dens, .int .i64 x.deg, .int .i64 x.hard, .int .i64 x.age] 41)
  obtain ⟨c0, c1, c2, c3, c4, c5, c6⟩ := hl.box
  have hpl := hl.lt
  clear hl
  have HR := Lib.hid hr1
  clear hr1
  obtain ⟨p, hp⟩ : ∃ p, p = w.heap.size := ⟨_, rfl⟩
  rw [← hp] at hpl c0 c1 c2 c3 c4 c5 c6
  rw [← hp]
  have HP := Lib.hid hp
  clear hp
  generalize w.alloc (.cells #[.int .i64 x.form, .int .i64 x.ice, .int .i64 x.water, .int .i64 x.dens, .int .i64 x.deg, .int .i64 x.hard, .int .i64 x.age] 41) = w1 at *
  go_region_held3 (fun w' => w'.cell? ⟨p, 0, none⟩ = some (.int .i64 x.form) ∧ w'.cell? ⟨p, 1, none⟩ = some (.int .i64 x.ice) ∧ w'.cell? ⟨p, 2, none⟩ = some (.int .i64 x.water) ∧ w'.cell? ⟨p, 3, none⟩ = some (.int .i64 x.dens) ∧ w'.cell? ⟨p, 4, none⟩ = some (.int .i64 x.deg) ∧ w'.cell? ⟨p, 5, none⟩ = some (.int .i64 x.hard) ∧ w'.cell? ⟨p, 6, none⟩ = some (.int .i64 x.age) ∧ Below w1.heap.size w1 w') (first | exact S7_step hpl (by assumption) (by assumption) | exact S7_stepA hpl (by assumption) (bl_alloc (Below.refl _ _) _) | exact S7_stepA hpl (by assumption) (bl_alloc (Below.refl _ _) _).drew | (refine ⟨?_, ?_, ?_, ?_, ?_, ?_, ?_, ?_⟩ <;> first | assumption | exact Below.refl _ _ | exact (Below.refl _ _).drew | exact (bl_alloc (Below.refl _ _) _).drew | exact bl_alloc (Below.refl _ _) _ | exact (bl_alloc (bl_alloc (Below.refl _ _) _) _).drew | go_keep) | go_keep)
    (first
      | (refine step_appL rfl (.tmp 16) (.tmp 17) rfl w1.heap.size _ [] ls A c (by simp [Act.eval]; rfl) (by simp [Act.eval]) ?_ ?_ (by simp; omega) ?_ ?_; (first | exact (OwnS.made0' _ _ _ (by simp) (by simp)).drew | exact ((OwnS.made0' _ _ _ (by simp) (by simp)).below (bl_alloc (Below.refl _ _) _)).drew); (first | exact (HR.out.below (bl_alloc (Below.refl _ _) _)).drewN 1 | exact (HR.out.below (bl_alloc (bl_alloc (Below.refl _ _) _) _)).drewN 1 ); (simp; try omega); intro v1 w2 ho1 hb2 hg2)
      | (refine step_appL rfl (.tmp 18) (.tmp 20) rfl w1.heap.size _ ls [x] _ _ (by simp [Act.eval]; rfl) (by simp [Act.eval]; exact ⟨rfl, rfl⟩) ?_ ?_ (by simp; omega) ?_ ?_; (first | exact ho1 | exact OwnS.below ho1 (bl_alloc (Below.refl _ _) _)); (first | exact RdL.one (LyAt.new' _ _ _ _ (by simp)) | exact RdL.one ((LyAt.new' _ 41 x _ (by simp)).drew.grown hg2 (by simp [Value.ownBlock])) | exact RdL.one (((LyAt.new' _ 41 x _ (by simp)).alloc _).drew.grown hg2 (by simp [Value.ownBlock]))); (have := hb2.size; simp at this ⊢; omega); intro v2 w3 ho2 hb3 hg3))
  all_goals
    go_wp2_with fail
    go_ret2
    exact ⟨v2, by rw [F.out.2]; rfl, by rw [F.out.1]; exact ho2.mono hb.size, hb.trans ((S7_bl (by assumption)).mono hb.size)⟩
set_option maxHeartbeats 1000000 in
theorem implAdd_any (A : Option Addr) (c : Nat) (ls : List Ly) (x : Ly) (w : World) (hr : RdL w A ls) (hn : ls.length ≤ 1048576) :
    Calls Try.prog 25 #[.slice A ls.length c, .agg #[.int .i64 x.form, .int .i64 x.ice, .int .i64 x.water, .int .i64 x.dens, .int .i64 x.deg, .int .i64 x.hard, .int .i64 x.age]] w (GivesLC w (addR ls x) (addC ls x)) := by
  have hl := LyAt.new w 41 x
  have hr1 := hr.below (bl_alloc (Below.refl w.heap.size w) (.cells #[.int .i64 x.form, .int .i64 x.ice, .int .i64 x.water, .int .i64 x.dens, .int .i64 x.deg, .int .i64 x.hard, .int .i64 x.age] 41))
  have hb := bl_alloc (Below.refl w.heap.size w) (.cells #[.int .i64 x.form, .int .i64 x.ice, .int .i64 x.water, .int .i64 x.dens, .int .i64 x.deg, .int .i64 x.hard, .int .i64 x.age] 41)
  have hpl := hl.lt
  rcases hok : okL ls with _ | _
  · have F := Lib.hid (add_1 (ls := ls) (x := x) (by rw [hok]; rfl))
    go_enter Try.func25, Try.ntmps25
    go_wp2_with (go_at_call 32; refine (validProfile_any A c ls _ hr1 hn).mono ?_; rintro e w1 ⟨rfl, hb1⟩)
    go_ret2
    exact ⟨_, by rw [F.out.2]; rfl, by rw [F.out.1]; exact OwnS.nil _ _, bl_trans hb hb1⟩
  rcases hx : lyOk x with _ | _
  · have F := Lib.hid (add_1 (ls := ls) (x := x) (by rw [hok, hx]; rfl))
    go_enter Try.func25, Try.ntmps25
    go_wp2_with fail
    refine (validProfile_any A c ls _ hr1 hn).mono ?_
    rintro e w1 ⟨rfl, hb1⟩
    obtain ⟨c0, c1, c2, c3, c4, c5, c6⟩ := (hl.below hb1 hpl).box
    go_wp2_with fail
    refine (validLayer_any x _).mono ?_
    rintro e w2 ⟨rfl, hb2⟩
    go_wp2_with fail
    go_ret2
    exact ⟨_, by rw [F.out.2]; rfl, by rw [F.out.1]; exact OwnS.nil _ _, bl_trans (bl_trans hb hb1) hb2⟩
  by_cases h16 : ls.length = 16
  · have F := Lib.hid (add_5 hok hx h16)
    have H16 := Lib.hid h16
    have hc16 : ((ls.length : Int) == 16) = true := by simp [h16]
    clear h16
    go_enter Try.func25, Try.ntmps25
    go_wp2_with fail
    refine (validProfile_any A c ls _ hr1 hn).mono ?_
    rintro e w1 ⟨rfl, hb1⟩
    obtain ⟨c0, c1, c2, c3, c4, c5, c6⟩ := (hl.below hb1 hpl).box
    go_wp2_with fail
    refine (validLayer_any x _).mono ?_
    rintro e w2 ⟨rfl, hb2⟩
    go_wp2_with fail
    go_ret2
    exact ⟨_, by rw [F.out.2]; rfl, by rw [F.out.1]; exact OwnS.nil _ _, bl_trans (bl_trans hb hb1) hb2⟩
  have F := Lib.hid (add_0 hok hx h16)
  have hc16 : ((ls.length : Int) == 16) = false := by simp; omega
  have h16' := okL_len hok
  go_enter Try.func25, Try.ntmps25
  go_wp2_with fail
  refine (validProfile_any A c ls _ hr1 hn).mono ?_
  rintro e wa ⟨rfl, hb1⟩
  obtain ⟨c0, c1, c2, c3, c4, c5, c6⟩ := (hl.below hb1 hpl).box
  go_wp2_with fail
  refine (validLayer_any x _).mono ?_
  rintro e w1 ⟨rfl, hb2⟩
  clear c0 c1 c2 c3 c4 c5 c6
  have hl2 := (hl.below hb1 hpl).below hb2 (hl.below hb1 hpl).lt
  have hr2 := (hr1.below hb1).below hb2
  have hbw := bl_trans (bl_trans hb hb1) hb2
  clear hl hr1 hb1 hb2 hb hpl
  obtain ⟨c0, c1, c2, c3, c4, c5, c6⟩ := hl2.box
  have hpl := hl2.lt
  have HR := Lib.hid hr2
  clear hr2 hl2
  go_wp2_with fail
  obtain ⟨p, hp⟩ : ∃ p, p = w.heap.size := ⟨_, rfl⟩
  rw [← hp] at hpl c0 c1 c2 c3 c4 c5 c6
  rw [← hp]
  have HP := Lib.hid hp
  clear hp
  go_region_held3 (fun w' => w'.cell? ⟨p, 0, none⟩ = some (.int .i64 x.form) ∧ w'.cell? ⟨p, 1, none⟩ = some (.int .i64 x.ice) ∧ w'.cell? ⟨p, 2, none⟩ = some (.int .i64 x.water) ∧ w'.cell? ⟨p, 3, none⟩ = some (.int .i64 x.dens) ∧ w'.cell? ⟨p, 4, none⟩ = some (.int .i64 x.deg) ∧ w'.cell? ⟨p, 5, none⟩ = some (.int .i64 x.hard) ∧ w'.cell? ⟨p, 6, none⟩ = some (.int .i64 x.age) ∧ Below w1.heap.size w1 w') (first | exact S7_step hpl (by assumption) (by assumption) | exact S7_stepA hpl (by assumption) (by assumption) | exact S7_stepA hpl (by assumption) (bl_alloc (Below.refl _ _) _) | exact S7_stepA hpl (by assumption) (bl_alloc (Below.refl _ _) _).drew | (refine ⟨?_, ?_, ?_, ?_, ?_, ?_, ?_, ?_⟩ <;> first | assumption | exact Below.refl _ _ | exact (Below.refl _ _).drew | exact (bl_alloc (Below.refl _ _) _).drew | exact bl_alloc (Below.refl _ _) _ | exact (bl_alloc (bl_alloc (Below.refl _ _) _) _).drew | go_keep) | go_keep)
    (first
      | (go_at_call 55; refine (clone_any A c ls _ (by first | exact HR.out.drewN 1 | exact (HR.out.below (bl_alloc (Below.refl _ _) _)).drewN 1) hn).mono ?_; rintro e w2 ⟨v1, rfl, ho1, hb1⟩)
      | (refine step_appL rfl (.tmp 20) (.tmp 22) rfl w1.heap.size _ ls [x] _ _ (by simp [Act.eval]; rfl) (by simp [Act.eval]; exact ⟨rfl, rfl⟩) ?_ ?_ (by simp; omega) ?_ ?_; (first | exact OwnS.mono ho1 (by simp) | exact OwnS.mono (OwnS.below ho1 (bl_alloc (Below.refl _ _) _)) (by simp)); (first | exact RdL.one (LyAt.new' _ _ _ _ (by simp)) | exact RdL.one ((LyAt.new' _ 41 x _ (by simp)).drew.below hb1 (by simp))); (have := hb1.size; simp at this ⊢; omega); intro v2 w3 ho2 hb3 hg3))
  all_goals
    go_wp2_with fail
    go_ret2
    exact ⟨v2, by rw [F.out.2]; rfl, by rw [F.out.1]; exact ho2.mono hbw.size, hbw.trans ((S7_bl (by assumption)).mono hbw.size)⟩
end Go.Proofs.Ytfndcahjjlcnaaa
