/- The mass above a layer: the contracts of LoadAbove and what it calls, on both sides. -/
import Derived.Test.YtnlikinckmoomaaMass
namespace Go.Proofs.Ytnlikinckmoomaa
open Go.ChangeShapes Go.WideShapes Go.ChangeAt Go.RowKit Go.Joins Go.Deep
set_option linter.unusedVariables false
def loadF (ls : List Ly) (k : Nat) : Int := sumF massF (ls.drop (k + 1))
theorem loadF_bd {ls : List Ly} (V : VL ls) (k : Nat) : 0 ≤ loadF ls k ∧ loadF ls k ≤ 32000000 := by
  have := (V.drop (k + 1)).sum massF 2000000 (fun x hx => mass_bd hx) (by omega) (ls.drop (k + 1)).length
  rw [sumF_all] at this
  exact this
theorem l03Load_any (A : Option Addr) (c : Nat) (ls : List Ly) (k : Nat) (w : World) (hr : RdL w A ls) (V : VL ls) (hc : ls.length ≤ c) (hk : k < ls.length) :
    Calls Try.prog 71 #[.slice A ls.length c, .int .i64 (k : Int)] w fun e w' => e = .returned (.int .i64 (loadF ls k)) ∧ w = w' := by
  have h16 := V.len
  obtain ⟨A', c', hsl, hr'⟩ := slice_from A c ls (k + 1) ((k : Int) + 1) (by omega) (by omega) hc
  have F : Hid (sumF Ly.ice (ls.drop (k + 1)) + sumF Ly.water (ls.drop (k + 1)) = loadF ls k) := sumF_mass _
  have V' := V.drop (k + 1)
  have R' := hr' w hr
  obtain ⟨s0, s1⟩ := V'.sum Ly.ice 1000000 (fun x hx => ice_bd hx) (by omega) (ls.drop (k + 1)).length
  obtain ⟨s2, s3⟩ := V'.sum Ly.water 1000000 (fun x hx => water_bd hx) (by omega) (ls.drop (k + 1)).length
  rw [sumF_all] at s0 s1 s2 s3
  generalize ls.drop (k + 1) = l2 at *
  go_enter Try.func71, Try.ntmps71
  go_wp2_with fail
  refine (l03Mass_any A' c' l2 _ R' V').mono ?_
  rintro e w' ⟨rfl, rfl⟩
  go_wp2_with fail
  go_ret
  exact ⟨ret_int F.out, rfl⟩
theorem loadAbove_any (A : Option Addr) (c : Nat) (ls : List Ly) (k : Nat) (w : World) (hr : RdL w A ls) (V : VL ls) (hc : ls.length ≤ c) (hk : k < ls.length) :
    Calls Try.prog 73 #[.slice A ls.length c, .int .i64 (k : Int)] w fun e w' => e = .returned (.int .i64 (loadF ls k)) ∧ Below w.heap.size w w' := by
  have h16 := V.len
  obtain ⟨A', c', hsl, hr'⟩ := slice_from A c ls (k + 1) ((k : Int) + 1) (by omega) (by omega) hc
  have F : Hid (sumF massF (ls.drop (k + 1)) = loadF ls k) := rfl
  have V' := V.drop (k + 1)
  have R' := hr' w hr
  have h17 := V'.len
  generalize ls.drop (k + 1) = l2 at *
  clear hr' hr V
  go_enter Try.func73, Try.ntmps73
  go_wp2_with fail
  clear hsl
  go_loopw [5, 13] (fun a i wr => ∃ j : Nat, j ≤ l2.length ∧ i = .int .i64 j ∧ a = .int .i64 (sumF massF (l2.take j)) ∧ Below w.heap.size w wr) (fun _ i _ => l2.length - (intOf i).toNat)
  case atStart => exact ⟨0, Nat.zero_le _, rfl, rfl, Below.refl _ _⟩
  case round =>
    obtain ⟨j, hj, rfl, rfl, hb⟩ := hrel
    by_cases hlt : j < l2.length
    · obtain ⟨g, o, rfl, hx⟩ := (R'.below hb).at_ j hlt
      obtain ⟨c0, c1, c2, c3, c4, c5, c6⟩ := hx
      have S1 := Lib.hid (sumF_snoc massF l2 j hlt)
      obtain ⟨s0, s1⟩ := V'.sum massF 2000000 (fun x hx => mass_bd hx) (by omega) j
      obtain ⟨t0, t1⟩ := ice_bd (V'.get j hlt)
      obtain ⟨t2, t3⟩ := water_bd (V'.get j hlt)
      generalize sumF massF (l2.take j) = s at *
      go_wp2_with fail
      go_roundw
      case rel => exact ⟨j + 1, by omega, by go_num, val_int S1.out.symm, bl_alloc hb _⟩
      case measure => simp [intOf]; omega
    · obtain rfl : j = l2.length := by omega
      go_wp2_with fail
      go_ret
      exact ⟨ret_int (by rw [← F.out]; first | rfl | rw [sumF_all]), hb⟩
end Go.Proofs.Ytnlikinckmoomaa
