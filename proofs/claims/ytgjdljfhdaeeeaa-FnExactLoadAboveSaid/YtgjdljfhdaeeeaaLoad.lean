/- The mass above a layer: the contracts of LoadAbove and what it calls, on both sides. -/
import Derived.Test.YtgjdljfhdaeeeaaMass
namespace Go.Proofs.Ytgjdljfhdaeeeaa
open Go.ChangeShapes Go.WideShapes Go.ChangeAt Go.RowKit Go.Joins Go.Deep
set_option linter.unusedVariables false
def loadF (ls : List Ly) (k : Nat) : Int := sumF massF (ls.drop (k + 1))
theorem loadF_bd {ls : List Ly} (V : VL ls) (k : Nat) : 0 ≤ loadF ls k ∧ loadF ls k ≤ 32000000 := by
  have := (V.drop (k + 1)).sum massF 2000000 (fun x hx => mass_bd hx) (by omega) (ls.drop (k + 1)).length
  rw [sumF_all] at this
  exact this
theorem l03Load_any (A : Option Addr) (c : Nat) (ls : List Ly) (k : Nat) (w : World) (hr : RdL w A ls) (V : VL ls) (hc : ls.length ≤ c) (hk : k < ls.length) :
    Calls Try.prog 53 #[.slice A ls.length c, .int .i64 (k : Int)] w fun e w' => e = .returned (.int .i64 (loadF ls k)) ∧ w = w' := by
  have h16 := V.len
  obtain ⟨A', c', hsl, hr'⟩ := slice_from A c ls (k + 1) ((k : Int) + 1) (by omega) (by omega) hc
  have F : Hid (sumF Ly.ice (ls.drop (k + 1)) + sumF Ly.water (ls.drop (k + 1)) = loadF ls k) := sumF_mass _
  have V' := V.drop (k + 1)
  have R' := hr' w hr
  obtain ⟨s0, s1⟩ := V'.sum Ly.ice 1000000 (fun x hx => ice_bd hx) (by omega) (ls.drop (k + 1)).length
  obtain ⟨s2, s3⟩ := V'.sum Ly.water 1000000 (fun x hx => water_bd hx) (by omega) (ls.drop (k + 1)).length
  rw [sumF_all] at s0 s1 s2 s3
  generalize ls.drop (k + 1) = l2 at *
  go_enter Try.func53, Try.ntmps53
  go_wp2_with fail
  refine (l03Mass_any A' c' l2 _ R' V').mono ?_
  rintro e w' ⟨rfl, rfl⟩
  go_wp2_with fail
  go_ret
  exact ⟨ret_int F.out, rfl⟩
theorem loadAbove_any (A : Option Addr) (c : Nat) (ls : List Ly) (k : Nat) (w : World) (hr : RdL w A ls) (V : VL ls) (hc : ls.length ≤ c) (hk : k < ls.length) :
    Calls Try.prog 55 #[.slice A ls.length c, .int .i64 (k : Int)] w fun e w' => e = .returned (.int .i64 (loadF ls k)) ∧ Below w.heap.size w w' := by
  have h16 := V.len
  obtain ⟨A', c', hsl, hr'⟩ := slice_from A c ls (k + 1) ((k : Int) + 1) (by omega) (by omega) hc
  have F : Hid (sumF massF (ls.drop (k + 1)) = loadF ls k) := rfl
  have V' := V.drop (k + 1)
  have R' := hr' w hr
  have h17 := V'.len
  generalize ls.drop (k + 1) = l2 at *
  clear hr' hr V
  go_enter Try.func55, Try.ntmps55
  go_wp2_with fail
  clear hsl
  go_loopw [5, 13] (fun a i wr => ∃ j : Nat, j ≤ l2.length ∧ i = .int .i64 j ∧ a = .int .i64 (sumF massF (l2.take j)) ∧ Below w.heap.size w wr) (fun _ i _ => l2.length - (intOf i).toNat)
  case atStart => exact ⟨0, Nat.zero_le _, rfl, rfl, Below.refl _ _⟩
  case round =>
    obtain ⟨j, hj, rfl, rfl, hb⟩ := hrel
    by_cases hlt : j < l2.length
    · obtain ⟨g, o, rfl, hx⟩ := (R'.below hb).at_ j hlt
      obtain ⟨c0, c1, c2, c3, c4, c5, c6⟩ := hx
      have S1 := Lib.hid (sumF_snoc massF l2 j hlt)
      obtain ⟨s0, s1⟩ := V'.sum massF 2000000 (fun x hx => mass_bd hx) (by omega) j
      obtain ⟨t0, t1⟩ := ice_bd (V'.get j hlt)
      obtain ⟨t2, t3⟩ := water_bd (V'.get j hlt)
      generalize sumF massF (l2.take j) = s at *
      go_wp2_with fail
      go_roundw
      case rel => exact ⟨j + 1, by omega, by go_num, val_int S1.out.symm, bl_alloc hb _⟩
      case measure => simp [intOf]; omega
    · obtain rfl : j = l2.length := by omega
      go_wp2_with fail
      go_ret
      exact ⟨ret_int (by rw [← F.out]; first | rfl | rw [sumF_all]), hb⟩
def askF (ls : List Ly) (k : Int) : Int := if okL ls then (if inB k 0 ((ls.length : Int) - 1) then 0 else 2) else 1
theorem ask_1 {ls : List Ly} (h : okL ls = false) (k : Int) : askF ls k = 1 := by unfold askF; rw [h]; rfl
theorem ask_2 {ls : List Ly} {k : Int} (h : okL ls = true) (h2 : inB k 0 ((ls.length : Int) - 1) = false) : askF ls k = 2 := by unfold askF; rw [h, h2]; rfl
theorem ask_0 {ls : List Ly} {k : Int} (h : okL ls = true) (h2 : inB k 0 ((ls.length : Int) - 1) = true) : askF ls k = 0 := by unfold askF; rw [h, h2]; rfl
theorem l03Ask_any (A : Option Addr) (c : Nat) (ls : List Ly) (k : Int) (w : World) (hr : RdL w A ls) (hn : ls.length ≤ 1048576) :
    Calls Try.prog 52 #[.slice A ls.length c, .int .i64 k] w fun e w' => e = .returned (.int .i64 (askF ls k)) ∧ w = w' := by
  rcases hok : okL ls with _ | _
  · have F := Lib.hid (ask_1 hok k)
    go_enter Try.func52, Try.ntmps52
    go_wp2_with (first | (go_at_call 46; refine (l03Ok_any A c ls _ hr hn).mono ?_; rintro e w' ⟨rfl, rfl⟩) | (go_at_call 56; refine (l00In_any _ _ _ _).mono ?_; rintro e w' ⟨rfl, rfl⟩))
    go_ret
    exact ⟨(ret_int F.out).symm, rfl⟩
  · rcases hin : inB k 0 ((ls.length : Int) - 1) with _ | _
    · have F := Lib.hid (ask_2 hok hin)
      go_enter Try.func52, Try.ntmps52
      go_wp2_with (first | (go_at_call 46; refine (l03Ok_any A c ls _ hr hn).mono ?_; rintro e w' ⟨rfl, rfl⟩) | (go_at_call 56; refine (l00In_any _ _ _ _).mono ?_; rintro e w' ⟨rfl, rfl⟩))
      go_ret
      exact ⟨(ret_int F.out).symm, rfl⟩
    · have F := Lib.hid (ask_0 hok hin)
      go_enter Try.func52, Try.ntmps52
      go_wp2_with (first | (go_at_call 46; refine (l03Ok_any A c ls _ hr hn).mono ?_; rintro e w' ⟨rfl, rfl⟩) | (go_at_call 56; refine (l00In_any _ _ _ _).mono ?_; rintro e w' ⟨rfl, rfl⟩))
      go_ret
      exact ⟨(ret_int F.out).symm, rfl⟩
theorem indexValid_any (A : Option Addr) (c : Nat) (ls : List Ly) (k : Int) (w : World) (hn : ls.length ≤ 1048576) :
    Calls Try.prog 54 #[.slice A ls.length c, .int .i64 k] w fun e w' => e = .returned (.bool (inB k 0 ((ls.length : Int) - 1))) ∧ w = w' := by
  go_enter Try.func54, Try.ntmps54
  go_wp2_with (go_at_call 38; refine (within_any _ _ _ _).mono ?_; rintro e w' ⟨rfl, rfl⟩)
  go_ret
  exact ⟨rfl, rfl⟩
def loadV (ls : List Ly) (k : Int) : Int := if askF ls k = 0 then loadF ls k.toNat else 0
theorem loadV_0 {ls : List Ly} {k : Int} (h : askF ls k = 0) : loadV ls k = loadF ls k.toNat := by unfold loadV; rw [if_pos h]
theorem loadV_1 {ls : List Ly} {k : Int} (h : ¬ askF ls k = 0) : loadV ls k = 0 := by unfold loadV; rw [if_neg h]
theorem specLoad_any (A : Option Addr) (c : Nat) (ls : List Ly) (k : Int) (w : World) (hr : RdL w A ls) (hn : ls.length ≤ 1048576) (hc : ls.length ≤ c) :
    Calls Try.prog 30 #[.slice A ls.length c, .int .i64 k] w fun e w' => e = .returned (.tuple #[.int .i64 (loadV ls k), .int .i64 (askF ls k)]) ∧ Below w.heap.size w w' := by
  rcases hok : okL ls with _ | _
  · have F := Lib.hid (ask_1 hok k)
    have G := Lib.hid (loadV_1 (ls := ls) (k := k) (by rw [F.out]; decide))
    have e := F.out
    go_enter Try.func30, Try.ntmps30
    go_wp2_with (go_at_call 52; refine (l03Ask_any A c ls _ _ hr hn).mono ?_; rintro e w' ⟨rfl, rfl⟩)
    go_ret2
    exact ⟨(ret2i G.out F.out).symm, Below.refl _ _⟩
  · rcases hin : inB k 0 ((ls.length : Int) - 1) with _ | _
    · have F := Lib.hid (ask_2 hok hin)
      have G := Lib.hid (loadV_1 (ls := ls) (k := k) (by rw [F.out]; decide))
      have e := F.out
      go_enter Try.func30, Try.ntmps30
      go_wp2_with (go_at_call 52; refine (l03Ask_any A c ls _ _ hr hn).mono ?_; rintro e w' ⟨rfl, rfl⟩)
      go_ret2
      exact ⟨(ret2i G.out F.out).symm, Below.refl _ _⟩
    · have F := Lib.hid (ask_0 hok hin)
      have G := Lib.hid (loadV_0 F.out)
      obtain ⟨k0, k1⟩ := inB_yes hin
      obtain ⟨m, rfl⟩ := Int.eq_ofNat_of_zero_le k0
      have V := VL.of_ok hok
      have e := F.out
      go_enter Try.func30, Try.ntmps30
      go_wp2_with (first | (go_at_call 52; refine (l03Ask_any A c ls _ _ hr hn).mono ?_; rintro e w' ⟨rfl, rfl⟩) | (go_at_call 53; refine (l03Load_any A c ls m _ hr V hc (by omega)).mono ?_; rintro e w' ⟨rfl, rfl⟩))
      go_ret2
      exact ⟨(ret2i (G.out.trans (by rw [Int.toNat_natCast])) F.out).symm, Below.refl _ _⟩
theorem implLoad_any (A : Option Addr) (c : Nat) (ls : List Ly) (k : Int) (w : World) (hr : RdL w A ls) (hn : ls.length ≤ 1048576) (hc : ls.length ≤ c) :
    Calls Try.prog 31 #[.slice A ls.length c, .int .i64 k] w fun e w' => e = .returned (.tuple #[.int .i64 (loadV ls k), .int .i64 (askF ls k)]) ∧ Below w.heap.size w w' := by
  rcases hok : okL ls with _ | _
  · have F := Lib.hid (ask_1 hok k)
    have G := Lib.hid (loadV_1 (ls := ls) (k := k) (by rw [F.out]; decide))
    go_enter Try.func31, Try.ntmps31
    go_wp2_with (go_at_call 25; refine (validProfile_any A c ls _ hr hn).mono ?_; rintro e w1 ⟨rfl, hb1⟩)
    go_ret2
    exact ⟨(ret2i G.out F.out).symm, hb1⟩
  · rcases hin : inB k 0 ((ls.length : Int) - 1) with _ | _
    · have F := Lib.hid (ask_2 hok hin)
      have G := Lib.hid (loadV_1 (ls := ls) (k := k) (by rw [F.out]; decide))
      go_enter Try.func31, Try.ntmps31
      go_wp2_with (first | (go_at_call 25; refine (validProfile_any A c ls _ hr hn).mono ?_; rintro e w1 ⟨rfl, hb1⟩) | (go_at_call 54; refine (indexValid_any A c ls _ _ hn).mono ?_; rintro e w' ⟨rfl, rfl⟩))
      go_ret2
      exact ⟨(ret2i G.out F.out).symm, hb1⟩
    · have F := Lib.hid (ask_0 hok hin)
      have G := Lib.hid (loadV_0 F.out)
      obtain ⟨k0, k1⟩ := inB_yes hin
      obtain ⟨m, rfl⟩ := Int.eq_ofNat_of_zero_le k0
      have V := VL.of_ok hok
      go_enter Try.func31, Try.ntmps31
      go_wp2_with (first | (go_at_call 25; refine (validProfile_any A c ls _ hr hn).mono ?_; rintro e w1 ⟨rfl, hb1⟩) | (go_at_call 54; refine (indexValid_any A c ls _ _ hn).mono ?_; rintro e w' ⟨rfl, rfl⟩) | (go_at_call 55; refine (loadAbove_any A c ls m _ (hr.below hb1) V hc (by omega)).mono ?_; rintro e w2 ⟨rfl, hb2⟩))
      go_ret2
      exact ⟨(ret2i (G.out.trans (by rw [Int.toNat_natCast])) F.out).symm, bl_trans hb1 hb2⟩
end Go.Proofs.Ytgjdljfhdaeeeaa
