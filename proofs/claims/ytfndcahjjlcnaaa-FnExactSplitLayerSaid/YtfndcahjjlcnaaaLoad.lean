/- The mass above a layer: the contracts of LoadAbove and what it calls, on both sides. -/
import Derived.Test.YtfndcahjjlcnaaaMass
namespace Go.Proofs.Ytfndcahjjlcnaaa
open Go.ChangeShapes Go.WideShapes Go.ChangeAt Go.RowKit Go.Joins Go.Deep
set_option linter.unusedVariables false
def loadF (ls : List Ly) (k : Nat) : Int := sumF massF (ls.drop (k + 1))
theorem loadF_bd {ls : List Ly} (V : VL ls) (k : Nat) : 0 ≤ loadF ls k ∧ loadF ls k ≤ 32000000 := by
  have := (V.drop (k + 1)).sum massF 2000000 (fun x hx => mass_bd hx) (by omega) (ls.drop (k + 1)).length
  rw [sumF_all] at this
  exact this
theorem l03Load_any (A : Option Addr) (c : Nat) (ls : List Ly) (k : Nat) (w : World) (hr : RdL w A ls) (V : VL ls) (hc : ls.length ≤ c) (hk : k < ls.length) :
    Calls Try.prog 44 #[.slice A ls.length c, .int .i64 (k : Int)] w fun e w' => e = .returned (.int .i64 (loadF ls k)) ∧ w = w' := by
  have h16 := V.len
  obtain ⟨A', c', hsl, hr'⟩ := slice_from A c ls (k + 1) ((k : Int) + 1) (by omega) (by omega) hc
  have F : Hid (sumF Ly.ice (ls.drop (k + 1)) + sumF Ly.water (ls.drop (k + 1)) = loadF ls k) := sumF_mass _
  have V' := V.drop (k + 1)
  have R' := hr' w hr
  obtain ⟨s0, s1⟩ := V'.sum Ly.ice 1000000 (fun x hx => ice_bd hx) (by omega) (ls.drop (k + 1)).length
  obtain ⟨s2, s3⟩ := V'.sum Ly.water 1000000 (fun x hx => water_bd hx) (by omega) (ls.drop (k + 1)).length
  rw [sumF_all] at s0 s1 s2 s3
  generalize ls.drop (k + 1) = l2 at *
  go_enter Try.func44, Try.ntmps44
  go_wp2_with fail
  refine (l03Mass_any A' c' l2 _ R' V').mono ?_
  rintro e w' ⟨rfl, rfl⟩
  go_wp2_with fail
  go_ret
  exact ⟨ret_int F.out, rfl⟩
theorem loadAbove_any (A : Option Addr) (c : Nat) (ls : List Ly) (k : Nat) (w : World) (hr : RdL w A ls) (V : VL ls) (hc : ls.length ≤ c) (hk : k < ls.length) :
    Calls Try.prog 48 #[.slice A ls.length c, .int .i64 (k : Int)] w fun e w' => e = .returned (.int .i64 (loadF ls k)) ∧ Below w.heap.size w w' := by
  have h16 := V.len
  obtain ⟨A', c', hsl, hr'⟩ := slice_from A c ls (k + 1) ((k : Int) + 1) (by omega) (by omega) hc
  have F : Hid (sumF massF (ls.drop (k + 1)) = loadF ls k) := rfl
  have V' := V.drop (k + 1)
  have R' := hr' w hr
  have h17 := V'.len
  generalize ls.drop (k + 1) = l2 at *
  clear hr' hr V
  go_enter Try.func48, Try.ntmps48
  go_wp2_with fail
  clear hsl
  go_loopw [5, 13] (fun a i wr => ∃ j : Nat, j ≤ l2.length ∧ i = .int .i64 j ∧ a = .int .i64 (sumF massF (l2.take j)) ∧ Below w.heap.size w wr) (fun _ i _ => l2.length - (intOf i).toNat)
  case atStart => exact ⟨0, Nat.zero_le _, rfl, rfl, Below.refl _ _⟩
  case round =>
    obtain ⟨j, hj, rfl, rfl, hb⟩ := hrel
    by_cases hlt : j < l2.length
    · obtain ⟨g, o, rfl, hx⟩ := (R'.below hb).at_ j hlt
      obtain ⟨c0, c1, c2, c3, c4, c5, c6⟩ := hx
      have S1 := Lib.hid (sumF_snoc massF l2 j hlt)
      obtain ⟨s0, s1⟩ := V'.sum massF 2000000 (fun x hx => mass_bd hx) (by omega) j
      obtain ⟨t0, t1⟩ := ice_bd (V'.get j hlt)
      obtain ⟨t2, t3⟩ := water_bd (V'.get j hlt)
      generalize sumF massF (l2.take j) = s at *
      go_wp2_with fail
      go_roundw
      case rel => exact ⟨j + 1, by omega, by go_num, val_int S1.out.symm, bl_alloc hb _⟩
      case measure => simp [intOf]; omega
    · obtain rfl : j = l2.length := by omega
      go_wp2_with fail
      go_ret
      exact ⟨ret_int (by rw [← F.out]; first | rfl | rw [sumF_all]), hb⟩
def askF (ls : List Ly) (k : Int) : Int := if okL ls then (if inB k 0 ((ls.length : Int) - 1) then 0 else 2) else 1
theorem ask_1 {ls : List Ly} (h : okL ls = false) (k : Int) : askF ls k = 1 := by unfold askF; rw [h]; rfl
theorem ask_2 {ls : List Ly} {k : Int} (h : okL ls = true) (h2 : inB k 0 ((ls.length : Int) - 1) = false) : askF ls k = 2 := by unfold askF; rw [h, h2]; rfl
theorem ask_0 {ls : List Ly} {k : Int} (h : okL ls = true) (h2 : inB k 0 ((ls.length : Int) - 1) = true) : askF ls k = 0 := by unfold askF; rw [h, h2]; rfl
theorem l03Ask_any (A : Option Addr) (c : Nat) (ls : List Ly) (k : Int) (w : World) (hr : RdL w A ls) (hn : ls.length ≤ 1048576) :
    Calls Try.prog 41 #[.slice A ls.length c, .int .i64 k] w fun e w' => e = .returned (.int .i64 (askF ls k)) ∧ w = w' := by
  rcases hok : okL ls with _ | _
  · have F := Lib.hid (ask_1 hok k)
    go_enter Try.func41, Try.ntmps41
    go_wp2_with (first | (go_at_call 30; refine (l03Ok_any A c ls _ hr hn).mono ?_; rintro e w' ⟨rfl, rfl⟩) | (go_at_call 35; refine (l00In_any _ _ _ _).mono ?_; rintro e w' ⟨rfl, rfl⟩))
    go_ret
    exact ⟨(ret_int F.out).symm, rfl⟩
  · rcases hin : inB k 0 ((ls.length : Int) - 1) with _ | _
    · have F := Lib.hid (ask_2 hok hin)
      go_enter Try.func41, Try.ntmps41
      go_wp2_with (first | (go_at_call 30; refine (l03Ok_any A c ls _ hr hn).mono ?_; rintro e w' ⟨rfl, rfl⟩) | (go_at_call 35; refine (l00In_any _ _ _ _).mono ?_; rintro e w' ⟨rfl, rfl⟩))
      go_ret
      exact ⟨(ret_int F.out).symm, rfl⟩
    · have F := Lib.hid (ask_0 hok hin)
      go_enter Try.func41, Try.ntmps41
      go_wp2_with (first | (go_at_call 30; refine (l03Ok_any A c ls _ hr hn).mono ?_; rintro e w' ⟨rfl, rfl⟩) | (go_at_call 35; refine (l00In_any _ _ _ _).mono ?_; rintro e w' ⟨rfl, rfl⟩))
      go_ret
      exact ⟨(ret_int F.out).symm, rfl⟩
theorem indexValid_any (A : Option Addr) (c : Nat) (ls : List Ly) (k : Int) (w : World) (hn : ls.length ≤ 1048576) :
    Calls Try.prog 45 #[.slice A ls.length c, .int .i64 k] w fun e w' => e = .returned (.bool (inB k 0 ((ls.length : Int) - 1))) ∧ w = w' := by
  go_enter Try.func45, Try.ntmps45
  go_wp2_with (go_at_call 37; refine (within_any _ _ _ _).mono ?_; rintro e w' ⟨rfl, rfl⟩)
  go_ret
  exact ⟨rfl, rfl⟩
end Go.Proofs.Ytfndcahjjlcnaaa
