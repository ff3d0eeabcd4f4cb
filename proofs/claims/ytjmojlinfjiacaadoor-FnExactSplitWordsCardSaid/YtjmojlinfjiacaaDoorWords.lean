/- A text cut into words: the contracts of the reference's l01Split and of both SplitWords. No condition. -/
import Derived.Test.YtjmojlinfjiacaaDoorWordP
import Derived.Test.YtjmojlinfjiacaaDoorStrS
import Derived.Test.YtjmojlinfjiacaaDoorPad
import Derived.Test.YtjmojlinfjiacaaDoorShelf
namespace Go.Proofs.YtjmojlinfjiacaaDoor
open Go.ChangeShapes Go.WideShapes Go.ChangeAt Go.RowKit
set_option linter.unusedVariables false
theorem emp_t {s : ByteArray} (h : s = ⟨#[]⟩) : s.toList.isEmpty = true := by subst h; simp
theorem emp_f {s : ByteArray} (h : ¬ s = ⟨#[]⟩) : s.toList.isEmpty = false := by
  have := beq_f h
  cases e : s.toList with
  | nil => rw [e] at this; simp at this
  | cons a b => rfl
/-- A list of strings of the call's own is returned. -/
def GivesT (w : World) (l : List ByteArray) (e : Ending) (w' : World) : Prop := ∃ A c, e = .returned (.slice A l.length c) ∧ l.length ≤ c ∧ OwnT w' w.heap.size (.slice A l.length c) l ∧ Below w.heap.size w w'
theorem GivesT.of {w w' : World} {v : Value} {l : List ByteArray} (h : OwnT w' w.heap.size v l) (hb : Below w.heap.size w w') : GivesT w l (.returned v) w' := by
  obtain ⟨A, c, rfl, hc⟩ := h.form
  exact ⟨A, c, rfl, hc, h, hb⟩
set_option maxHeartbeats 2000000 in
theorem l01Split_any (s : ByteArray) (w : World) (hs : s.size ≤ 1048576) : Calls Tryd.prog 15 #[.string s, .int .u8 32] w (GivesT w (pieces s 32)) := by
  have hO0 := Lib.hid (OwnT.empty w w.heap.size (Nat.le_refl _))
  have hB0 := Lib.hid (bl_alloc (Below.refl w.heap.size w) (.cells #[] 9))
  have H0 := Lib.hid (cut_start s 32)
  go_enter Tryd.func15, Tryd.ntmps15
  go_wp2_with fail
  go_loopw [5, 6, 7] (fun o f i wr => ∃ (m fr n : Nat) (out : List ByteArray) (A : Option Addr) (c : Nat), i = .int .i64 m ∧ f = .int .i64 fr ∧ o = .slice A n c ∧ n ≤ c ∧ n ≤ 1048577 ∧ fr ≤ m ∧ m ≤ s.size ∧ Hid (CutAt s 32 out fr m) ∧ Hid (n = out.length) ∧ Hid (OwnT wr w.heap.size (.slice A n c) out) ∧ Below w.heap.size w wr) (fun _ _ i _ => s.size - (intOf i).toNat)
  case atStart => exact ⟨0, 0, 0, [], _, _, rfl, rfl, rfl, Nat.le_refl _, by omega, Nat.le_refl _, Nat.zero_le _, H0, Lib.hid rfl, hO0, hB0.out⟩
  case round =>
    obtain ⟨m, fr, n, out, A, c, rfl, rfl, rfl, hnc, hn, hfm, hms, HC, HN, HO, hb⟩ := hrel
    have i1 : (fr : Int) ≤ (m : Int) := by omega
    have i2 : (m : Int) ≤ (s.size : Int) := by omega
    have i3 : (fr : Int) ≤ (s.size : Int) := by omega
    by_cases hlt : m < s.size
    · by_cases hc : (s[m].toNat : Int) = 32
      · have HX := Lib.hid (cut_hit HC.out hlt (byte_eq (c := 32) hc))
        have hl := cut_len HX.out
        go_wp2_with (at_builtin; refine wpList_app_str _ rfl (.tmp 20) (.tmp 25) rfl w.heap.size _ out rfl (HO.out.alloc _) wr.heap.size (s.extract fr m) rfl (new1s _ _ _) (by rw [← HN.out]; omega) (bl_alloc hb _).size ?_; intro v' w2 ho2 hg2)
        have hb02 : Below w.heap.size w w2 := Below.grown (bl_alloc hb _) hg2 (bl_alloc hb _).size (HO.out.ge)
        obtain ⟨A2, c2, rfl, hc2⟩ := ho2.form
        go_roundw
        case rel => exact ⟨m + 1, m + 1, _, _, A2, c2, by go_num, by go_num, rfl, hc2, by omega, Nat.le_refl _, hlt, HX, Lib.hid rfl, Lib.hid ho2, hb02⟩
        case measure => simp [intOf]; omega
      · have HX := Lib.hid (cut_miss HC.out hlt (fun e => hc (by rw [e]; rfl)))
        go_wp2_with fail
        go_roundw
        case rel => exact ⟨m + 1, fr, n, out, A, c, by go_num, rfl, rfl, hnc, hn, by omega, hlt, HX, HN, HO, hb⟩
        case measure => simp [intOf]; omega
    · obtain rfl : m = s.size := by omega
      have HE := Lib.hid (cut_end HC.out)
      go_wp2_with (at_builtin; refine wpList_app_str _ rfl (.tmp 29) (.tmp 33) rfl w.heap.size _ out rfl (HO.out.alloc _) wr.heap.size (s.extract fr s.size) rfl (new1s _ _ _) (by rw [← HN.out]; omega) (bl_alloc hb _).size ?_; intro v' w2 ho2 hg2)
      have hb02 : Below w.heap.size w w2 := Below.grown (bl_alloc hb _) hg2 (bl_alloc hb _).size (HO.out.ge)
      rw [HE.out] at ho2
      go_ret
      exact GivesT.of ho2 hb02
set_option maxHeartbeats 2000000 in
theorem specWords_any (s : ByteArray) (w : World) (hs : s.size ≤ 1048576) : Calls Tryd.prog 6 #[.string s] w (GivesT w (keepT (pieces s 32))) := by
  go_enter Tryd.func6, Tryd.ntmps6
  go_wp2_with fail
  refine (l01Split_any s _ hs).mono ?_
  rintro e w1 ⟨A, c, rfl, hlc, ho1, hb1⟩
  have hrd := Lib.hid ho1.rd
  clear ho1
  have hpl := pieces_len s 32
  obtain ⟨ps, hps⟩ : ∃ ps, ps = pieces s 32 := ⟨_, rfl⟩
  rw [← hps] at hrd hlc hpl ⊢
  have HPS := Lib.hid hps
  clear hps
  have hO0 := Lib.hid (OwnT.empty w1 w1.heap.size (Nat.le_refl _))
  have hB0 := Lib.hid (bl_alloc (Below.refl w1.heap.size w1) (.cells #[] 9))
  go_wp2_with fail
  go_loopw [4, 5] (fun o i wr => ∃ (k n : Nat) (out : List ByteArray) (A : Option Addr) (c : Nat), i = .int .i64 k ∧ k ≤ ps.length ∧ o = .slice A n c ∧ n ≤ c ∧ n ≤ k ∧ Hid (out = keepT (ps.take k)) ∧ Hid (n = out.length) ∧ Hid (OwnT wr w1.heap.size (.slice A n c) out) ∧ Below w1.heap.size w1 wr) (fun _ i _ => ps.length - (intOf i).toNat)
  case atStart => exact ⟨0, 0, [], _, _, rfl, Nat.zero_le _, rfl, Nat.le_refl _, Nat.le_refl _, Lib.hid rfl, Lib.hid rfl, hO0, hB0.out⟩
  case round =>
    obtain ⟨k, n, out, A1, c1, rfl, hk, rfl, hnc, hnk, HK, HN, HO, hb⟩ := hrel
    by_cases hlt : k < ps.length
    · obtain ⟨g, o, rfl, hx⟩ := (hrd.out.below hb).at_ k hlt
      by_cases he : ps[k] = ⟨#[]⟩
      · have HX := Lib.hid (HK.out.trans (keepT_snoc_f hlt he).symm)
        have hq := emp_t he
        clear he
        go_wp2_with fail
        go_roundw
        case rel => exact ⟨k + 1, n, out, A1, c1, by go_num, hlt, rfl, hnc, by omega, HX, HN, HO, hb⟩
        case measure => simp [intOf]; omega
      · have HX := Lib.hid (keepT_snoc_t hlt he)
        have hq := emp_f he
        clear he
        go_wp2_with (at_builtin; refine wpList_app_str _ rfl (.tmp 20) (.tmp 25) rfl w1.heap.size _ out rfl (HO.out.alloc _) wr.heap.size ps[k] rfl (new1s _ _ _) (by rw [← HN.out]; omega) (bl_alloc hb _).size ?_; intro v' w2 ho2 hg2)
        have hb02 : Below w1.heap.size w1 w2 := Below.grown (bl_alloc hb _) hg2 (bl_alloc hb _).size (HO.out.ge)
        obtain ⟨A2, c2, rfl, hc2⟩ := ho2.form
        go_roundw
        case rel => exact ⟨k + 1, _, _, A2, c2, by go_num, hlt, rfl, hc2, by simp; have := HN.out; omega, Lib.hid (by rw [HX.out, ← HK.out]), Lib.hid rfl, Lib.hid ho2, hb02⟩
        case measure => simp [intOf]; omega
    · obtain rfl : k = ps.length := by omega
      have hK := HK.out
      rw [List.take_length] at hK
      have ho := HO.out
      rw [hK, HPS.out] at ho
      have HR : Hid (GivesT w (keepT (pieces s 32)) (.returned (.slice A1 n c1)) wr) := Lib.hid (GivesT.of (⟨ho.1, ho.2.elim Or.inl (fun ⟨g, cap, cur, hv, hg, r⟩ => Or.inr ⟨g, cap, cur, hv, Nat.le_trans hb1.size hg, r⟩)⟩) (bl_trans hb1 hb))
      clear ho
      go_wp2_with fail
      go_ret
      exact HR.out
end Go.Proofs.YtjmojlinfjiacaaDoor
