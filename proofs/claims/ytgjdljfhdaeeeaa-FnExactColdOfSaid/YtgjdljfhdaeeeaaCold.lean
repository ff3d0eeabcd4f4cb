/- The contracts of the program's and of the reference's ColdOf. -/
import Derived.Test.YtgjdljfhdaeeeaaLyF
import Derived.Test.YtgjdljfhdaeeeaaSum
namespace Go.Proofs.Ytgjdljfhdaeeeaa
open Go.ChangeShapes Go.WideShapes Go.ChangeAt Go.RowKit Go.Joins Go.Deep
set_option linter.unusedVariables false
theorem specCold_any (A : Option Addr) (c : Nat) (ls : List Ly) (w : World) (hr : RdL w A ls) (hn : ls.length ≤ 1048576) :
    Calls Try.prog 28 #[.slice A ls.length c] w fun e w' => e = .returned (.tuple #[.int .i64 (valOk ls (sumF coldF ls)), .int .i64 (codeOk ls)]) ∧ Below w.heap.size w w' := by
  rcases hok : okL ls with _ | _
  · have F1 := Lib.hid (valOk_f hok (sumF coldF ls))
    have F2 := Lib.hid (codeOk_f hok)
    go_enter Try.func28, Try.ntmps28
    go_wp2_with (go_at_call 46; refine (l03Ok_any A c ls _ hr hn).mono ?_; rintro e w' ⟨rfl, rfl⟩)
    go_ret2
    exact ⟨(ret2i F1.out F2.out).symm, Below.refl _ _⟩
  · have F1 := Lib.hid (valOk_t hok (sumF coldF ls))
    have F2 := Lib.hid (codeOk_t hok)
    have V := VL.of_ok hok
    go_enter Try.func28, Try.ntmps28
    go_wp2_with (go_at_call 46; refine (l03Ok_any A c ls _ hr hn).mono ?_; rintro e w' ⟨rfl, rfl⟩)
    clear hok
    go_loopw [4, 5] (fun a i wr => ∃ k : Nat, k ≤ ls.length ∧ i = .int .i64 k ∧ a = .int .i64 (sumF coldF (ls.take k)) ∧ Below w.heap.size w wr) (fun _ i _ => ls.length - (intOf i).toNat)
    case atStart => exact ⟨0, Nat.zero_le _, rfl, rfl, Below.refl _ _⟩
    case round =>
      obtain ⟨k, hk, rfl, rfl, hb⟩ := hrel
      by_cases hlt : k < ls.length
      · obtain ⟨g, o, rfl, hx⟩ := (hr.below hb).at_ k hlt
        have S1 := Lib.hid (sumF_snoc coldF ls k hlt)
        obtain ⟨s0, s1⟩ := V.sum coldF 84000001 (fun x hx => coldF_bd hx) (by omega) k
        obtain ⟨t0, t1⟩ := coldF_bd (V.get k hlt)
        generalize sumF coldF (ls.take k) = s at *
        have hB := V.get k hlt
        go_wp2_with fail
        refine (l03Cold_any ls[k] _ _ _ hB hx).mono ?_
        rintro e w' ⟨rfl, nd, rfl⟩
        go_wp2_with fail
        go_roundw
        case rel => exact ⟨k + 1, by omega, by go_num, val_int S1.out.symm, bl_drewN hb _⟩
        case measure => simp [intOf]; omega
      · obtain rfl : k = ls.length := by omega
        go_wp2_with fail
        go_ret2
        exact ⟨ret2i (by rw [F1.out, sumF_all]) F2.out.symm, hb⟩
theorem implCold_any (A : Option Addr) (c : Nat) (ls : List Ly) (w : World) (hr : RdL w A ls) (hn : ls.length ≤ 1048576) :
    Calls Try.prog 29 #[.slice A ls.length c] w fun e w' => e = .returned (.tuple #[.int .i64 (valOk ls (sumF coldF ls)), .int .i64 (codeOk ls)]) ∧ Below w.heap.size w w' := by
  rcases hok : okL ls with _ | _
  · have F1 := Lib.hid (valOk_f hok (sumF coldF ls))
    have F2 := Lib.hid (codeOk_f hok)
    go_enter Try.func29, Try.ntmps29
    go_wp2_with (go_at_call 25; refine (validProfile_any A c ls _ hr hn).mono ?_; rintro e w1 ⟨rfl, hb1⟩)
    go_ret2
    exact ⟨(ret2i F1.out F2.out).symm, hb1⟩
  · have F1 := Lib.hid (valOk_t hok (sumF coldF ls))
    have F2 := Lib.hid (codeOk_t hok)
    have V := VL.of_ok hok
    go_enter Try.func29, Try.ntmps29
    go_wp2_with (go_at_call 25; refine (validProfile_any A c ls _ hr hn).mono ?_; rintro e w1 ⟨rfl, hb1⟩)
    clear hok
    go_loopw [4, 12] (fun a i wr => ∃ k : Nat, k ≤ ls.length ∧ i = .int .i64 k ∧ a = .int .i64 (sumF coldF (ls.take k)) ∧ Below w.heap.size w wr) (fun _ i _ => ls.length - (intOf i).toNat)
    case atStart => exact ⟨0, Nat.zero_le _, rfl, rfl, hb1⟩
    case round =>
      obtain ⟨k, hk, rfl, rfl, hb⟩ := hrel
      by_cases hlt : k < ls.length
      · obtain ⟨g, o, rfl, hx⟩ := (hr.below hb).at_ k hlt
        obtain ⟨c0, c1, c2, c3, c4, c5, c6⟩ := hx
        have S1 := Lib.hid (sumF_snoc coldF ls k hlt)
        obtain ⟨s0, s1⟩ := V.sum coldF 84000001 (fun x hx => coldF_bd hx) (by omega) k
        obtain ⟨t0, t1⟩ := coldF_bd (V.get k hlt)
        generalize sumF coldF (ls.take k) = s at *
        have hB := V.get k hlt
        go_wp2_with fail
        clear c0 c1 c2 c3 c4 c5 c6
        refine (cold_any ls[k] _ hB).mono ?_
        rintro e w2 ⟨rfl, hb2⟩
        go_wp2_with fail
        go_roundw
        case rel => exact ⟨k + 1, by omega, by go_num, val_int S1.out.symm, bl_trans (bl_alloc hb _) hb2⟩
        case measure => simp [intOf]; omega
      · obtain rfl : k = ls.length := by omega
        go_wp2_with fail
        go_ret2
        exact ⟨ret2i (by rw [F1.out, sumF_all]) F2.out.symm, hb⟩
end Go.Proofs.Ytgjdljfhdaeeeaa
