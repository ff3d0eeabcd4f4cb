/- The contracts of the program's and of the reference's HeightOf and of the loops behind them. -/
import Derived.Test.YtfndcahjjlcnaaaLyF
import Derived.Test.YtfndcahjjlcnaaaSum
namespace Go.Proofs.Ytfndcahjjlcnaaa
open Go.ChangeShapes Go.WideShapes Go.ChangeAt Go.RowKit Go.Joins Go.Deep
set_option linter.unusedVariables false
theorem thick_bd {x : Ly} (h : LyB x) : 0 ≤ thick x ∧ thick x ≤ 1000000 := by
  have := h.i0
  have := h.i1
  have := h.d0
  have := h.d1
  have e : thick x = (2 * x.ice + x.dens) / (2 * x.dens) := by unfold thick rdiv; rw [if_neg (by omega), rdivP_pos _ _ (by omega)]
  rw [e]
  refine ⟨Int.ediv_nonneg (by omega) (by omega), ?_⟩
  exact Int.le_trans (Int.ediv_le_ediv (by omega) (show 2 * x.ice + x.dens ≤ 1000000 * (2 * x.dens) by omega)) (by rw [Int.mul_ediv_cancel _ (by omega)]; exact Int.le_refl _)
theorem LyAt.drewN {w : World} {g o : Nat} {x : Ly} (h : LyAt w g o x) (n : Nat) : LyAt (w.drewN n) g o x := h.of_block rfl
theorem l03Height_any (A : Option Addr) (c : Nat) (ls : List Ly) (w : World) (hr : RdL w A ls) (V : VL ls) :
    Calls Try.prog 31 #[.slice A ls.length c] w fun e w' => e = .returned (.int .i64 (sumF thick ls)) ∧ Below w.heap.size w w' := by
  have h16 := V.len
  go_enter Try.func31, Try.ntmps31
  go_wp2_with fail
  go_loopw [3, 4] (fun a i wr => ∃ k : Nat, k ≤ ls.length ∧ i = .int .i64 k ∧ a = .int .i64 (sumF thick (ls.take k)) ∧ Below w.heap.size w wr) (fun _ i _ => ls.length - (intOf i).toNat)
  case atStart => exact ⟨0, Nat.zero_le _, rfl, rfl, Below.refl _ _⟩
  case round =>
    obtain ⟨k, hk, rfl, rfl, hb⟩ := hrel
    by_cases hlt : k < ls.length
    · obtain ⟨g, o, rfl, hx⟩ := (hr.below hb).at_ k hlt
      have S1 := Lib.hid (sumF_snoc thick ls k hlt)
      obtain ⟨s0, s1⟩ := V.sum thick 1000000 (fun x hx => thick_bd hx) (by omega) k
      obtain ⟨t0, t1⟩ := thick_bd (V.get k hlt)
      generalize sumF thick (ls.take k) = s at *
      have hB := V.get k hlt
      go_wp2_with fail
      refine (l03Thick_any ls[k] _ _ _ hB hx).mono ?_
      rintro e w' ⟨rfl, nd, rfl⟩
      go_wp2_with fail
      go_roundw
      case rel => exact ⟨k + 1, by omega, by go_num, val_int S1.out.symm, bl_drewN hb _⟩
      case measure => simp [intOf]; omega
    · obtain rfl : k = ls.length := by omega
      go_wp2_with fail
      go_ret
      exact ⟨ret_int (sumF_all _ _), hb⟩
theorem heightOf_any (A : Option Addr) (c : Nat) (ls : List Ly) (w : World) (hr : RdL w A ls) (V : VL ls) :
    Calls Try.prog 33 #[.slice A ls.length c] w fun e w' => e = .returned (.int .i64 (sumF thick ls)) ∧ Below w.heap.size w w' := by
  have h16 := V.len
  go_enter Try.func33, Try.ntmps33
  go_wp2_with fail
  go_loopw [3, 8] (fun a i wr => ∃ k : Nat, k ≤ ls.length ∧ i = .int .i64 k ∧ a = .int .i64 (sumF thick (ls.take k)) ∧ Below w.heap.size w wr) (fun _ i _ => ls.length - (intOf i).toNat)
  case atStart => exact ⟨0, Nat.zero_le _, rfl, rfl, Below.refl _ _⟩
  case round =>
    obtain ⟨k, hk, rfl, rfl, hb⟩ := hrel
    by_cases hlt : k < ls.length
    · obtain ⟨g, o, rfl, hx⟩ := (hr.below hb).at_ k hlt
      obtain ⟨c0, c1, c2, c3, c4, c5, c6⟩ := hx
      have S1 := Lib.hid (sumF_snoc thick ls k hlt)
      obtain ⟨s0, s1⟩ := V.sum thick 1000000 (fun x hx => thick_bd hx) (by omega) k
      obtain ⟨t0, t1⟩ := thick_bd (V.get k hlt)
      generalize sumF thick (ls.take k) = s at *
      have hB := V.get k hlt
      go_wp2_with fail
      clear c0 c1 c2 c3 c4 c5 c6
      refine (thickness_any ls[k] _ hB).mono ?_
      rintro e w2 ⟨rfl, hb2⟩
      go_wp2_with fail
      go_roundw
      case rel => exact ⟨k + 1, by omega, by go_num, val_int S1.out.symm, bl_trans (bl_alloc hb _) hb2⟩
      case measure => simp [intOf]; omega
    · obtain rfl : k = ls.length := by omega
      go_wp2_with fail
      go_ret
      exact ⟨ret_int (sumF_all _ _), hb⟩
theorem specHeight_any (A : Option Addr) (c : Nat) (ls : List Ly) (w : World) (hr : RdL w A ls) (hn : ls.length ≤ 1048576) :
    Calls Try.prog 11 #[.slice A ls.length c] w fun e w' => e = .returned (.tuple #[.int .i64 (valOk ls (sumF thick ls)), .int .i64 (codeOk ls)]) ∧ Below w.heap.size w w' := by
  rcases hok : okL ls with _ | _
  · have F1 := Lib.hid (valOk_f hok (sumF thick ls))
    have F2 := Lib.hid (codeOk_f hok)
    go_enter Try.func11, Try.ntmps11
    go_wp2_with (go_at_call 30; refine (l03Ok_any A c ls _ hr hn).mono ?_; rintro e w' ⟨rfl, rfl⟩)
    go_ret2
    exact ⟨(ret2i F1.out F2.out).symm, Below.refl _ _⟩
  · have F1 := Lib.hid (valOk_t hok (sumF thick ls))
    have F2 := Lib.hid (codeOk_t hok)
    have V := VL.of_ok hok
    go_enter Try.func11, Try.ntmps11
    go_wp2_with (first | (go_at_call 30; refine (l03Ok_any A c ls _ hr hn).mono ?_; rintro e w' ⟨rfl, rfl⟩) | (go_at_call 31; refine (l03Height_any A c ls _ hr V).mono ?_; rintro e w1 ⟨rfl, hb1⟩))
    go_ret2
    exact ⟨(ret2i F1.out F2.out).symm, hb1⟩
theorem implHeight_any (A : Option Addr) (c : Nat) (ls : List Ly) (w : World) (hr : RdL w A ls) (hn : ls.length ≤ 1048576) :
    Calls Try.prog 13 #[.slice A ls.length c] w fun e w' => e = .returned (.tuple #[.int .i64 (valOk ls (sumF thick ls)), .int .i64 (codeOk ls)]) ∧ Below w.heap.size w w' := by
  rcases hok : okL ls with _ | _
  · have F1 := Lib.hid (valOk_f hok (sumF thick ls))
    have F2 := Lib.hid (codeOk_f hok)
    go_enter Try.func13, Try.ntmps13
    go_wp2_with (go_at_call 32; refine (validProfile_any A c ls _ hr hn).mono ?_; rintro e w1 ⟨rfl, hb1⟩)
    go_ret2
    exact ⟨(ret2i F1.out F2.out).symm, hb1⟩
  · have F1 := Lib.hid (valOk_t hok (sumF thick ls))
    have F2 := Lib.hid (codeOk_t hok)
    have V := VL.of_ok hok
    go_enter Try.func13, Try.ntmps13
    go_wp2_with (first | (go_at_call 32; refine (validProfile_any A c ls _ hr hn).mono ?_; rintro e w1 ⟨rfl, hb1⟩) | (go_at_call 33; refine (heightOf_any A c ls _ (hr.below hb1) V).mono ?_; rintro e w2 ⟨rfl, hb2⟩))
    go_ret2
    exact ⟨(ret2i F1.out F2.out).symm, bl_trans hb1 hb2⟩
end Go.Proofs.Ytfndcahjjlcnaaa
