/- A text cut at a byte: the contract of the reference's l01Split. No condition. -/
import Derived.Test.YtcpdipopajhajaaDoorWordP
import Derived.Test.YtcpdipopajhajaaDoorStrS
import Derived.Test.YtcpdipopajhajaaDoorPad
import Derived.Test.YtcpdipopajhajaaDoorShelf
namespace Go.Proofs.YtcpdipopajhajaaDoor
open Go.ChangeShapes Go.WideShapes Go.ChangeAt Go.RowKit
set_option linter.unusedVariables false
theorem emp_t {s : ByteArray} (h : s = ⟨#[]⟩) : s.toList.isEmpty = true := by subst h; simp
theorem emp_f {s : ByteArray} (h : ¬ s = ⟨#[]⟩) : s.toList.isEmpty = false := by
  have := beq_f h
  cases e : s.toList with
  | nil => rw [e] at this; simp at this
  | cons a b => rfl
/-- A list of strings of the call's own is returned. -/
def GivesT (w : World) (l : List ByteArray) (e : Ending) (w' : World) : Prop := ∃ A c, e = .returned (.slice A l.length c) ∧ l.length ≤ c ∧ OwnT w' w.heap.size (.slice A l.length c) l ∧ Below w.heap.size w w'
theorem GivesT.of {w w' : World} {v : Value} {l : List ByteArray} (h : OwnT w' w.heap.size v l) (hb : Below w.heap.size w w') : GivesT w l (.returned v) w' := by
  obtain ⟨A, c, rfl, hc⟩ := h.form
  exact ⟨A, c, rfl, hc, h, hb⟩
set_option maxHeartbeats 2000000 in
theorem l01SplitC_any (s : ByteArray) (c0 : UInt8) (w : World) (hs : s.size ≤ 1048576) : Calls Tryd.prog 31 #[.string s, .int .u8 (c0.toNat : Int)] w (GivesT w (pieces s c0)) := by
  have hO0 := Lib.hid (OwnT.empty w w.heap.size (Nat.le_refl _))
  have hB0 := Lib.hid (bl_alloc (Below.refl w.heap.size w) (.cells #[] 9))
  have H0 := Lib.hid (cut_start s c0)
  go_enter Tryd.func31, Tryd.ntmps31
  go_wp2_with fail
  go_loopw [5, 6, 7] (fun o f i wr => ∃ (m fr n : Nat) (out : List ByteArray) (A : Option Addr) (c : Nat), i = .int .i64 m ∧ f = .int .i64 fr ∧ o = .slice A n c ∧ n ≤ c ∧ n ≤ 1048577 ∧ fr ≤ m ∧ m ≤ s.size ∧ Hid (CutAt s c0 out fr m) ∧ Hid (n = out.length) ∧ Hid (OwnT wr w.heap.size (.slice A n c) out) ∧ Below w.heap.size w wr) (fun _ _ i _ => s.size - (intOf i).toNat)
  case atStart => exact ⟨0, 0, 0, [], _, _, rfl, rfl, rfl, Nat.le_refl _, by omega, Nat.le_refl _, Nat.zero_le _, H0, Lib.hid rfl, hO0, hB0.out⟩
  case round =>
    obtain ⟨m, fr, n, out, A, c, rfl, rfl, rfl, hnc, hn, hfm, hms, HC, HN, HO, hb⟩ := hrel
    have i1 : (fr : Int) ≤ (m : Int) := by omega
    have i2 : (m : Int) ≤ (s.size : Int) := by omega
    have i3 : (fr : Int) ≤ (s.size : Int) := by omega
    by_cases hlt : m < s.size
    · by_cases hc : (s[m].toNat : Int) = (c0.toNat : Int)
      · have HX := Lib.hid (cut_hit HC.out hlt (byte_eq hc))
        have hl := cut_len HX.out
        go_wp2_with (at_builtin; refine wpList_app_str _ rfl (.tmp 20) (.tmp 25) rfl w.heap.size _ out rfl (HO.out.alloc _) wr.heap.size (s.extract fr m) rfl (new1s _ _ _) (by rw [← HN.out]; omega) (bl_alloc hb _).size ?_; intro v' w2 ho2 hg2)
        have hb02 : Below w.heap.size w w2 := Below.grown (bl_alloc hb _) hg2 (bl_alloc hb _).size (HO.out.ge)
        obtain ⟨A2, c2, rfl, hc2⟩ := ho2.form
        go_roundw
        case rel => exact ⟨m + 1, m + 1, _, _, A2, c2, by go_num, by go_num, rfl, hc2, by omega, Nat.le_refl _, hlt, HX, Lib.hid rfl, Lib.hid ho2, hb02⟩
        case measure => simp [intOf]; omega
      · have HX := Lib.hid (cut_miss HC.out hlt (fun e => hc (by rw [e])))
        go_wp2_with fail
        go_roundw
        case rel => exact ⟨m + 1, fr, n, out, A, c, by go_num, rfl, rfl, hnc, hn, by omega, hlt, HX, HN, HO, hb⟩
        case measure => simp [intOf]; omega
    · obtain rfl : m = s.size := by omega
      have HE := Lib.hid (cut_end HC.out)
      go_wp2_with (at_builtin; refine wpList_app_str _ rfl (.tmp 29) (.tmp 33) rfl w.heap.size _ out rfl (HO.out.alloc _) wr.heap.size (s.extract fr s.size) rfl (new1s _ _ _) (by rw [← HN.out]; omega) (bl_alloc hb _).size ?_; intro v' w2 ho2 hg2)
      have hb02 : Below w.heap.size w w2 := Below.grown (bl_alloc hb _) hg2 (bl_alloc hb _).size (HO.out.ge)
      rw [HE.out] at ho2
      go_ret
      exact GivesT.of ho2 hb02
end Go.Proofs.YtcpdipopajhajaaDoor
