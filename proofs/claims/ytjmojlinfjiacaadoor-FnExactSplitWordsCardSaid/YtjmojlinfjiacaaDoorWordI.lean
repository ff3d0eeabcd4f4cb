/- A text cut into words: the contract of the program's SplitWords. No condition. -/
import Derived.Test.YtjmojlinfjiacaaDoorWords
namespace Go.Proofs.YtjmojlinfjiacaaDoor
open Go.ChangeShapes Go.WideShapes Go.ChangeAt Go.RowKit
set_option linter.unusedVariables false
/-- What strings.Split gives at one blank. -/
theorem splitSp_any (s : ByteArray) (w : World) (hs : s.size ≤ 1048576) (hm : ∃ m, w.cell? ⟨2, 0, none⟩ = some (.int .i64 m)) :
    Calls Tryd.prog 16 #[.string s, .string ⟨#[32]⟩] w fun e w' => ∃ A, e = .returned (.slice A (pieces s 32).length (pieces s 32).length) ∧ RdT w' A (pieces s 32) ∧ Below w.heap.size w w' := by
  obtain ⟨m, hm⟩ := hm
  have hl : Lib.countB s ⟨#[32]⟩ + 1 = (pieces s 32).length := by
    rw [← splitB_pieces]
    exact (Lib.splitB_all ⟨#[32]⟩ (by decide) 0 _ s rfl).symm
  have h := Tryd.strings_Split s ⟨#[32]⟩ m w (by omega) hm (by decide)
  rw [hl, splitB_pieces] at h
  refine h.mono ?_
  rintro e w' ⟨rfl, rfl⟩
  refine ⟨_, rfl, ?_, bl_alloc (Below.refl _ _) _⟩
  intro k x hx
  refine ⟨_, _, rfl, ?_⟩
  rw [Nat.zero_add]
  refine (cell_of_row _ _ k _ _ (0, 0) (heap_alloc_new w _)).trans ?_
  simp [hx]
set_option maxHeartbeats 2000000 in
theorem implWords_any (s : ByteArray) (w : World) (hs : s.size ≤ 1048576) (hm : ∃ m, w.cell? ⟨2, 0, none⟩ = some (.int .i64 m)) :
    Calls Tryd.prog 7 #[.string s] w (GivesT w (keepT (pieces s 32))) := by
  have HSP := Lib.hid (splitSp_any s w hs hm)
  clear hm
  go_enter Tryd.func7, Tryd.ntmps7
  go_wp2_with fail
  refine HSP.out.mono ?_
  rintro e w1 ⟨A, rfl, hrd0, hb1⟩
  have hrd := Lib.hid hrd0
  clear hrd0
  have hpl := pieces_len s 32
  obtain ⟨ps, hps⟩ : ∃ ps, ps = pieces s 32 := ⟨_, rfl⟩
  rw [← hps] at hrd hpl ⊢
  have HPS := Lib.hid hps
  clear hps HSP
  have hO0 := Lib.hid (OwnT.nil w1 w1.heap.size)
  have hB0 := Lib.hid (Below.refl w1.heap.size w1)
  go_wp2_with fail
  go_loopw [3, 9] (fun o i wr => ∃ (k n : Nat) (out : List ByteArray) (A : Option Addr) (c : Nat), i = .int .i64 k ∧ k ≤ ps.length ∧ o = .slice A n c ∧ n ≤ c ∧ n ≤ k ∧ Hid (out = keepT (ps.take k)) ∧ Hid (n = out.length) ∧ Hid (OwnT wr w1.heap.size (.slice A n c) out) ∧ Below w1.heap.size w1 wr) (fun _ i _ => ps.length - (intOf i).toNat)
  case atStart => exact ⟨0, 0, [], _, _, rfl, Nat.zero_le _, rfl, Nat.le_refl _, Nat.le_refl _, Lib.hid rfl, Lib.hid rfl, hO0, hB0.out⟩
  case round =>
    obtain ⟨k, n, out, A1, c1, rfl, hk, rfl, hnc, hnk, HK, HN, HO, hb⟩ := hrel
    by_cases hlt : k < ps.length
    · obtain ⟨g, o, rfl, hx⟩ := (hrd.out.below hb).at_ k hlt
      by_cases he : ps[k] = ⟨#[]⟩
      · have HX := Lib.hid (HK.out.trans (keepT_snoc_f hlt he).symm)
        have hq := emp_t he
        clear he
        go_wp2_with fail
        go_roundw
        case rel => exact ⟨k + 1, n, out, A1, c1, by go_num, hlt, rfl, hnc, by omega, HX, HN, HO, hb⟩
        case measure => simp [intOf]; omega
      · have HX := Lib.hid (keepT_snoc_t hlt he)
        have hq := emp_f he
        clear he
        go_wp2_with (at_builtin; refine wpList_app_str _ rfl (.tmp 15) (.tmp 17) rfl w1.heap.size _ out rfl (HO.out.alloc _) wr.heap.size ps[k] rfl (new1s _ _ _) (by rw [← HN.out]; omega) (bl_alloc hb _).size ?_; intro v' w2 ho2 hg2)
        have hb02 : Below w1.heap.size w1 w2 := Below.grown (bl_alloc hb _) hg2 (bl_alloc hb _).size (HO.out.ge)
        obtain ⟨A2, c2, rfl, hc2⟩ := ho2.form
        go_roundw
        case rel => exact ⟨k + 1, _, _, A2, c2, by go_num, hlt, rfl, hc2, by simp; have := HN.out; omega, Lib.hid (by rw [HX.out, ← HK.out]), Lib.hid rfl, Lib.hid ho2, hb02⟩
        case measure => simp [intOf]; omega
    · obtain rfl : k = ps.length := by omega
      have hK := HK.out
      rw [List.take_length] at hK
      have ho := HO.out
      rw [hK, HPS.out] at ho
      have HR : Hid (GivesT w (keepT (pieces s 32)) (.returned (.slice A1 n c1)) wr) := Lib.hid (GivesT.of ⟨ho.1, ho.2.elim Or.inl (fun ⟨g, cap, cur, hv, hg, r⟩ => Or.inr ⟨g, cap, cur, hv, Nat.le_trans hb1.size hg, r⟩)⟩ (bl_trans hb1 hb))
      clear ho
      go_wp2_with fail
      go_ret
      exact HR.out
end Go.Proofs.YtjmojlinfjiacaaDoor
