/- WarmTop and CoolTop: the contracts of the program's and of the reference's functions. -/
import Derived.Test.YtnlikinckmoomaaCoolS
namespace Go.Proofs.Ytnlikinckmoomaa
open Go.ChangeShapes Go.WideShapes Go.ChangeAt Go.RowKit Go.Joins Go.Deep
set_option linter.unusedVariables false
def heatC (ls : List Ly) (j : Int) : Int := if okL ls then (if inB j 0 100000000 then 0 else 2) else 1
def heatR (f : HeatF) (ls : List Ly) (j : Int) : List Ly := if heatC ls j = 0 then (heatA f j ls).l else []
def heatV (f : HeatF) (ls : List Ly) (j : Int) : Int := if heatC ls j = 0 then (heatA f j ls).j else 0
theorem heatR_len (f : HeatF) (ls : List Ly) (j : Int) (hn : ls.length ≤ 1048576) : (heatR f ls j).length ≤ 1048576 := by
  unfold heatR
  split
  · rw [heatA_len]; exact hn
  · simp
theorem heat_1 (f : HeatF) {ls : List Ly} (h : okL ls = false) (j : Int) : heatR f ls j = [] ∧ heatV f ls j = 0 ∧ heatC ls j = 1 := by
  have : heatC ls j = 1 := by unfold heatC; rw [h]; rfl
  exact ⟨by unfold heatR; rw [this]; rfl, by unfold heatV; rw [this]; rfl, this⟩
theorem heat_2 (f : HeatF) {ls : List Ly} {j : Int} (h : okL ls = true) (h2 : inB j 0 100000000 = false) : heatR f ls j = [] ∧ heatV f ls j = 0 ∧ heatC ls j = 2 := by
  have : heatC ls j = 2 := by unfold heatC; rw [h, h2]; rfl
  exact ⟨by unfold heatR; rw [this]; rfl, by unfold heatV; rw [this]; rfl, this⟩
theorem heat_0 (f : HeatF) {ls : List Ly} {j : Int} (h : okL ls = true) (h2 : inB j 0 100000000 = true) : heatR f ls j = (heatA f j ls).l ∧ heatV f ls j = (heatA f j ls).j ∧ heatC ls j = 0 := by
  have : heatC ls j = 0 := by unfold heatC; rw [h, h2]; rfl
  exact ⟨by unfold heatR; rw [this]; rfl, by unfold heatV; rw [this]; rfl, this⟩
theorem l05Joules_any (n : Int) (w : World) : Calls Try.prog 51 #[.int .i64 n] w fun e w' => e = .returned (.bool (inB n 0 100000000)) ∧ w = w' := by
  go_enter Try.func51, Try.ntmps51
  go_wp2_with (go_at_call 36; refine (l00In_any _ _ _ _).mono ?_; rintro e w' ⟨rfl, rfl⟩)
  go_ret
  exact ⟨rfl, rfl⟩
theorem specWarm_any (A : Option Addr) (c : Nat) (ls : List Ly) (j : Int) (w : World) (hr : RdL w A ls) (hn : ls.length ≤ 1048576) :
    Calls Try.prog 24 #[.slice A ls.length c, .int .i64 j] w (GivesLVC w (heatR warmF ls j) (heatV warmF ls j) (heatC ls j)) := by
  rcases hok : okL ls with _ | _
  · have F := Lib.hid (heat_1 warmF hok j)
    go_enter Try.func24, Try.ntmps24
    go_wp2_with (go_at_call 35; refine (l03Ok_any A c ls _ hr hn).mono ?_; rintro e w' ⟨rfl, rfl⟩)
    go_ret3
    exact ⟨_, by rw [F.out.2.1, F.out.2.2]; rfl, ⟨none, 0, by rw [F.out.1]; rfl, .inl F.out.1⟩, Below.refl _ _⟩
  rcases hin : inB j 0 100000000 with _ | _
  · have F := Lib.hid (heat_2 warmF hok hin)
    go_enter Try.func24, Try.ntmps24
    go_wp2_with (first | (go_at_call 35; refine (l03Ok_any A c ls _ hr hn).mono ?_; rintro e w' ⟨rfl, rfl⟩) | (go_at_call 51; refine (l05Joules_any _ _).mono ?_; rintro e w' ⟨rfl, rfl⟩))
    go_ret3
    exact ⟨_, by rw [F.out.2.1, F.out.2.2]; rfl, ⟨none, 0, by rw [F.out.1]; rfl, .inl F.out.1⟩, Below.refl _ _⟩
  have F := Lib.hid (heat_0 warmF hok hin)
  have V := VL.of_ok hok
  obtain ⟨j0, j1⟩ := inB_yes hin
  go_enter Try.func24, Try.ntmps24
  go_wp2_with (first | (go_at_call 35; refine (l03Ok_any A c ls _ hr hn).mono ?_; rintro e w' ⟨rfl, rfl⟩) | (go_at_call 51; refine (l05Joules_any _ _).mono ?_; rintro e w' ⟨rfl, rfl⟩) | (go_at_call 55; refine (l05Warm_any A c ls j _ hr V j0 j1).mono ?_; rintro e w1 ⟨v1, rfl, hs1, hb1⟩))
  go_ret3
  obtain ⟨A1, c1, e1, _, ho1⟩ := hs1
  exact ⟨_, by rw [F.out.2.1, F.out.2.2]; rfl, by rw [F.out.1]; exact ⟨A1, c1, e1, ho1⟩, hb1⟩
theorem implWarm_any (A : Option Addr) (c : Nat) (ls : List Ly) (j : Int) (w : World) (hr : RdL w A ls) (hn : ls.length ≤ 1048576) :
    Calls Try.prog 25 #[.slice A ls.length c, .int .i64 j] w (GivesLVC w (heatR warmF ls j) (heatV warmF ls j) (heatC ls j)) := by
  rcases hok : okL ls with _ | _
  · have F := Lib.hid (heat_1 warmF hok j)
    go_enter Try.func25, Try.ntmps25
    go_wp2_with (go_at_call 40; refine (validProfile_any A c ls _ hr hn).mono ?_; rintro e w1 ⟨rfl, hb1⟩)
    go_ret3
    exact ⟨_, by rw [F.out.2.1, F.out.2.2]; rfl, ⟨none, 0, by rw [F.out.1]; rfl, .inl F.out.1⟩, hb1⟩
  rcases hin : inB j 0 100000000 with _ | _
  · have F := Lib.hid (heat_2 warmF hok hin)
    go_enter Try.func25, Try.ntmps25
    go_wp2_with (first | (go_at_call 40; refine (validProfile_any A c ls _ hr hn).mono ?_; rintro e w1 ⟨rfl, hb1⟩) | (go_at_call 41; refine (within_any _ _ _ _).mono ?_; rintro e w' ⟨rfl, rfl⟩))
    go_ret3
    exact ⟨_, by rw [F.out.2.1, F.out.2.2]; rfl, ⟨none, 0, by rw [F.out.1]; rfl, .inl F.out.1⟩, hb1⟩
  have F := Lib.hid (heat_0 warmF hok hin)
  have V := VL.of_ok hok
  obtain ⟨j0, j1⟩ := inB_yes hin
  go_enter Try.func25, Try.ntmps25
  go_wp2_with (first | (go_at_call 40; refine (validProfile_any A c ls _ hr hn).mono ?_; rintro e w1 ⟨rfl, hb1⟩) | (go_at_call 41; refine (within_any _ _ _ _).mono ?_; rintro e w' ⟨rfl, rfl⟩))
  refine (clone_any A c ls _ (hr.below hb1) hn).mono ?_
  rintro e w2 ⟨v2, rfl, hs2, hb2⟩
  obtain ⟨A2, c2, rfl, ho2⟩ := hs2.out
  go_wp2_with fail
  refine (heatW_any A2 c2 w1.heap.size ls j _ ho2 hb2.size V j0 j1).mono ?_
  rintro e w3 ⟨rfl, ho3, hb3⟩
  go_wp2_with fail
  go_ret3
  exact ⟨_, by rw [F.out.2.1, F.out.2.2]; rfl, ⟨A2, c2, by rw [F.out.1, heatA_len]; rfl, by rw [F.out.1]; exact ho3.mono hb1.size⟩, bl_trans hb1 (hb2.trans hb3)⟩
theorem specCool_any (A : Option Addr) (c : Nat) (ls : List Ly) (j : Int) (w : World) (hr : RdL w A ls) (hn : ls.length ≤ 1048576) :
    Calls Try.prog 22 #[.slice A ls.length c, .int .i64 j] w (GivesLVC w (heatR coolF ls j) (heatV coolF ls j) (heatC ls j)) := by
  rcases hok : okL ls with _ | _
  · have F := Lib.hid (heat_1 coolF hok j)
    go_enter Try.func22, Try.ntmps22
    go_wp2_with (go_at_call 35; refine (l03Ok_any A c ls _ hr hn).mono ?_; rintro e w' ⟨rfl, rfl⟩)
    go_ret3
    exact ⟨_, by rw [F.out.2.1, F.out.2.2]; rfl, ⟨none, 0, by rw [F.out.1]; rfl, .inl F.out.1⟩, Below.refl _ _⟩
  rcases hin : inB j 0 100000000 with _ | _
  · have F := Lib.hid (heat_2 coolF hok hin)
    go_enter Try.func22, Try.ntmps22
    go_wp2_with (first | (go_at_call 35; refine (l03Ok_any A c ls _ hr hn).mono ?_; rintro e w' ⟨rfl, rfl⟩) | (go_at_call 51; refine (l05Joules_any _ _).mono ?_; rintro e w' ⟨rfl, rfl⟩))
    go_ret3
    exact ⟨_, by rw [F.out.2.1, F.out.2.2]; rfl, ⟨none, 0, by rw [F.out.1]; rfl, .inl F.out.1⟩, Below.refl _ _⟩
  have F := Lib.hid (heat_0 coolF hok hin)
  have V := VL.of_ok hok
  obtain ⟨j0, j1⟩ := inB_yes hin
  go_enter Try.func22, Try.ntmps22
  go_wp2_with (first | (go_at_call 35; refine (l03Ok_any A c ls _ hr hn).mono ?_; rintro e w' ⟨rfl, rfl⟩) | (go_at_call 51; refine (l05Joules_any _ _).mono ?_; rintro e w' ⟨rfl, rfl⟩) | (go_at_call 52; refine (l05Cool_any A c ls j _ hr V j0 j1).mono ?_; rintro e w1 ⟨v1, rfl, hs1, hb1⟩))
  go_ret3
  obtain ⟨A1, c1, e1, _, ho1⟩ := hs1
  exact ⟨_, by rw [F.out.2.1, F.out.2.2]; rfl, by rw [F.out.1]; exact ⟨A1, c1, e1, ho1⟩, hb1⟩
theorem implCool_any (A : Option Addr) (c : Nat) (ls : List Ly) (j : Int) (w : World) (hr : RdL w A ls) (hn : ls.length ≤ 1048576) :
    Calls Try.prog 23 #[.slice A ls.length c, .int .i64 j] w (GivesLVC w (heatR coolF ls j) (heatV coolF ls j) (heatC ls j)) := by
  rcases hok : okL ls with _ | _
  · have F := Lib.hid (heat_1 coolF hok j)
    go_enter Try.func23, Try.ntmps23
    go_wp2_with (go_at_call 40; refine (validProfile_any A c ls _ hr hn).mono ?_; rintro e w1 ⟨rfl, hb1⟩)
    go_ret3
    exact ⟨_, by rw [F.out.2.1, F.out.2.2]; rfl, ⟨none, 0, by rw [F.out.1]; rfl, .inl F.out.1⟩, hb1⟩
  rcases hin : inB j 0 100000000 with _ | _
  · have F := Lib.hid (heat_2 coolF hok hin)
    go_enter Try.func23, Try.ntmps23
    go_wp2_with (first | (go_at_call 40; refine (validProfile_any A c ls _ hr hn).mono ?_; rintro e w1 ⟨rfl, hb1⟩) | (go_at_call 41; refine (within_any _ _ _ _).mono ?_; rintro e w' ⟨rfl, rfl⟩))
    go_ret3
    exact ⟨_, by rw [F.out.2.1, F.out.2.2]; rfl, ⟨none, 0, by rw [F.out.1]; rfl, .inl F.out.1⟩, hb1⟩
  have F := Lib.hid (heat_0 coolF hok hin)
  have V := VL.of_ok hok
  obtain ⟨j0, j1⟩ := inB_yes hin
  go_enter Try.func23, Try.ntmps23
  go_wp2_with (first | (go_at_call 40; refine (validProfile_any A c ls _ hr hn).mono ?_; rintro e w1 ⟨rfl, hb1⟩) | (go_at_call 41; refine (within_any _ _ _ _).mono ?_; rintro e w' ⟨rfl, rfl⟩))
  refine (clone_any A c ls _ (hr.below hb1) hn).mono ?_
  rintro e w2 ⟨v2, rfl, hs2, hb2⟩
  obtain ⟨A2, c2, rfl, ho2⟩ := hs2.out
  go_wp2_with fail
  refine (heatC_any A2 c2 w1.heap.size ls j _ ho2 hb2.size V j0 j1).mono ?_
  rintro e w3 ⟨rfl, ho3, hb3⟩
  go_wp2_with fail
  go_ret3
  exact ⟨_, by rw [F.out.2.1, F.out.2.2]; rfl, ⟨A2, c2, by rw [F.out.1, heatA_len]; rfl, by rw [F.out.1]; exact ho3.mono hb1.size⟩, bl_trans hb1 (hb2.trans hb3)⟩
end Go.Proofs.Ytnlikinckmoomaa
