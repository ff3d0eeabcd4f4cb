/- slices.Grow of nil and slices.Concat of lists of layers; 'list[:k]'. No condition. -/
import Derived.Test.YthlandlpjhdbdaaMark
import Derived.Test.YthlandlpjhdbdaaMass
import Derived.Lib.AppendZerosOnto
import Derived.Lib.AppendZeros
namespace Go.Proofs.Ythlandlpjhdbdaa
open Go.ChangeShapes Go.WideShapes Go.ChangeAt Go.RowKit Go.Joins Go.Deep
set_option linter.unusedVariables false
theorem slice_to (A : Option Addr) (c : Nat) (ls : List Ly) (k : Nat) (hi : Int) (hhi : hi = (k : Int)) (hk : k ≤ ls.length) (hc : ls.length ≤ c) :
    ∃ A' c', (∀ w : World, (Instr.slice 24 (.slice A ls.length c) none (some (.int .i64 hi)) none).run Try.prog w = .ok (.slice A' (ls.take k).length c') w) ∧ (∀ w : World, RdL w A ls → RdL w A' (ls.take k)) := by
  subst hhi
  obtain ⟨i, hi, _, hs, _⟩ := info_parts info_ly
  have hlen : (ls.take k).length = k := by rw [List.length_take]; omega
  refine ⟨if c = 0 then A else A.map (·.add (0 * 7)), c - 0, fun w => ?_, fun w hr => ?_⟩
  · have ht : Try.prog.underlying 24 = some (.slice (Try.prog.elem 24)) := by rw [Try.underlying24]; rfl
    rw [run_slice_h (P := Try.prog) w 24 A ls.length c ht .i64 (k : Int) (by omega) (by omega)]
    have he : Try.prog.elem 24 = 34 := by unfold Program.elem; rw [Try.underlying24]
    rw [he, hlen]
    simp [sizeOf, typeInfo, hi, hs, sliced]
  · intro j x hx
    have hlt := (List.getElem?_eq_some_iff.1 hx).1
    rw [List.getElem?_take] at hx
    split at hx
    · obtain ⟨g, o, rfl, hl⟩ := hr j x hx
      refine ⟨g, o, ?_, hl⟩
      split
      · rfl
      · simp [Go.WideShapes.add_plain]
    · cases hx
theorem grow_any (n : Nat) (w : World) (hn : n ≤ 3000000) :
    Calls Try.prog 28 #[.slice none 0 0, .int .i64 (n : Int)] w (GivesL w []) := by
  rcases Nat.eq_zero_or_pos n with rfl | h0
  · go_enter Try.func28, Try.ntmps28
    go_wp2_with fail
    go_ret
    exact ⟨_, rfl, OwnS.nil _ _, Below.refl _ _⟩
  · obtain ⟨i, hi, hz, hs, hb⟩ := info_parts info_ly
    have hrz := Lib.run_append_grow_zeros (P := Try.prog) w 24 3 24 34 i _ .i64 .i64 Try.underlying24 Try.underlying3 hi hz none 0 0 [] (run_firstCells_none w.drew i.size 0 0 0) n h0 (by omega) (by omega) (by omega) (by rw [hb]; omega) (by rw [Nat.zero_add]; exact growslice_fits h0 (by rw [hb]; omega))
    have hcap := grownCap_ge w (0 + n) 0 34
    have hcapm := grownCap_le_maxLen w (0 + n) 0 34 (by unfold maxLen; omega)
    have hown : OwnS (w.drew.alloc (.cells (([] : List Value).toArray ++ Builtin.zeroCells (Value.agg #[.int .i64 0, .int .i64 0, .int .i64 0, .int .i64 0, .int .i64 0, .int .i64 0, .int .i64 0]).cells n ++ Builtin.zeroCells (Value.agg #[.int .i64 0, .int .i64 0, .int .i64 0, .int .i64 0, .int .i64 0, .int .i64 0, .int .i64 0]).cells (grownCap w (0 + n) 0 34 - (0 + n))) 34)) w.heap.size (.slice (some ⟨w.heap.size, 0, none⟩) 0 (grownCap w (0 + n) 0 34)) [] := by
      refine World.ownsRow_made w.drew _ _ (Nat.le_refl _) hcapm ?_
      have e : (Value.agg #[.int .i64 0, .int .i64 0, .int .i64 0, .int .i64 0, .int .i64 0, .int .i64 0, .int .i64 0]).cells.size = 7 := rfl
      simp only [Array.size_append, List.size_toArray, List.length_nil, size_zeroCells, e]
      omega
    have hbl := bl_alloc (Below.refl w.heap.size w).drew (.cells (([] : List Value).toArray ++ Builtin.zeroCells (Value.agg #[.int .i64 0, .int .i64 0, .int .i64 0, .int .i64 0, .int .i64 0, .int .i64 0, .int .i64 0]).cells n ++ Builtin.zeroCells (Value.agg #[.int .i64 0, .int .i64 0, .int .i64 0, .int .i64 0, .int .i64 0, .int .i64 0, .int .i64 0]).cells (grownCap w (0 + n) 0 34 - (0 + n))) 34)
    generalize w.drew.alloc (.cells (([] : List Value).toArray ++ Builtin.zeroCells (Value.agg #[.int .i64 0, .int .i64 0, .int .i64 0, .int .i64 0, .int .i64 0, .int .i64 0, .int .i64 0]).cells n ++ Builtin.zeroCells (Value.agg #[.int .i64 0, .int .i64 0, .int .i64 0, .int .i64 0, .int .i64 0, .int .i64 0, .int .i64 0]).cells (grownCap w (0 + n) 0 34 - (0 + n))) 34) = w2 at *
    generalize grownCap w (0 + n) 0 34 = G at *
    rw [Nat.zero_add] at hrz hcap
    unfold maxLen at hcapm
    clear hi hz hs hb
    have hRZ := Lib.hid hrz
    clear hrz
    go_enter Try.func28, Try.ntmps28
    go_wp2_with (at_builtin; refine Lib.wpList_append_run _ rfl _ _ _ _ rfl _ _ rfl rfl _ _ hRZ.out ?_)
    go_ret
    exact ⟨_, rfl, hown, hbl⟩
structure Pt where
  A : Option Addr
  c : Nat
  ls : List Ly
def catP (ps : List Pt) : List Ly := ps.flatMap (·.ls)
def Parts (w : World) (g : Nat) (ps : List Pt) : Prop := ∀ (i : Nat) (p : Pt), ps[i]? = some p → w.cell? ⟨g, i, none⟩ = some (.slice p.A p.ls.length p.c) ∧ RdL w p.A p.ls
theorem Parts.below {w w' : World} {g : Nat} {ps : List Pt} (h : Parts w g ps) (hg : g < w.heap.size) (hb : Below w.heap.size w w') : Parts w' g ps := fun i p hp => ⟨(hb.cell (p := ⟨g, i, none⟩) hg).trans (h i p hp).1, (h i p hp).2.below hb⟩
theorem catP_snoc (ps : List Pt) (k : Nat) (h : k < ps.length) : catP (ps.take (k + 1)) = catP (ps.take k) ++ ps[k].ls := by
  unfold catP
  rw [List.take_succ_eq_append_getElem h, List.flatMap_append]
  simp
theorem catP_mono (ps : List Pt) (k : Nat) : (catP (ps.take k)).length ≤ (catP ps).length := by
  have e : catP ps = catP (ps.take k) ++ catP (ps.drop k) := by unfold catP; rw [← List.flatMap_append, List.take_append_drop]
  rw [e, List.length_append]
  omega
theorem concat_any (g c : Nat) (ps : List Pt) (w : World) (hp : Parts w g ps) (hg : g < w.heap.size) (hm : ps.length ≤ 10) (hn : (catP ps).length ≤ 1048576) :
    Calls Try.prog 20 #[.slice (some ⟨g, 0, none⟩) ps.length c] w (GivesL w (catP ps)) := by
  go_enter Try.func20, Try.ntmps20
  go_wp2_with fail
  go_loop [3, 11] (fun s i => ∃ k : Nat, k ≤ ps.length ∧ i = .int .i64 k ∧ s = .int .i64 ((catP (ps.take k)).length : Int)) (fun _ i => ps.length - (intOf i).toNat)
  case atStart => exact ⟨0, Nat.zero_le _, rfl, rfl⟩
  case round =>
    obtain ⟨k, hk, rfl, rfl⟩ := hrel
    have hle := catP_mono ps k
    by_cases hlt : k < ps.length
    · have hc := (hp k _ (List.getElem?_eq_getElem hlt)).1
      have hsn := catP_snoc ps k hlt
      have hle2 := catP_mono ps (k + 1)
      rw [hsn, List.length_append] at hle2
      have HS : Hid ((catP (ps.take (k + 1))).length = (catP (ps.take k)).length + ps[k].ls.length) := by show _ = _; rw [hsn, List.length_append]
      clear hsn
      have d1 : decide (((catP (ps.take k)).length : Int) + (ps[k].ls.length : Int) < 0) = false := by simp; omega
      go_wp2_with fail
      go_round
      case rel => exact ⟨k + 1, by omega, by go_num, by rw [HS.out]; go_num⟩
      case measure => simp [intOf]; omega
    · obtain rfl : k = ps.length := by omega
      have HT : Hid (catP (ps.take ps.length) = catP ps) := by show _ = _; rw [List.take_length]
      go_wp2_with fail
      clear hle
      refine (grow_any (catP ps).length w (by omega)).mono ?_
      rintro e w1 ⟨v1, rfl, ho1, hb1⟩
      have hp1 := Lib.hid (hp.below hg hb1)
      go_wp2_with fail
      go_loopw [6, 27] (fun v i wr => ∃ k : Nat, k ≤ ps.length ∧ i = .int .i64 k ∧ OwnS wr w.heap.size v (catP (ps.take k)) ∧ Below w.heap.size w wr) (fun _ i _ => ps.length - (intOf i).toNat)
      case atStart => exact ⟨0, Nat.zero_le _, rfl, ho1, hb1⟩
      case round =>
        obtain ⟨k, hk, rfl, ho, hb⟩ := hrel
        have hle := catP_mono ps k
        by_cases hlt : k < ps.length
        · have hpk := hp.below hg hb k _ (List.getElem?_eq_getElem hlt)
          have hc := hpk.1
          have HRd := Lib.hid hpk.2
          clear hpk
          have hsn := catP_snoc ps k hlt
          have hle2 := catP_mono ps (k + 1)
          rw [hsn, List.length_append] at hle2
          have HS := Lib.hid hsn
          clear hsn
          have HO := Lib.hid ho
          clear ho
          go_wp2_with (at_builtin; refine wpList_appL _ rfl (.tmp 31) (.tmp 32) rfl w.heap.size _ (catP (ps.take k)) ps[k].ls _ _ rfl rfl HO.out HRd.out (by omega) hb.size ?_; intro v2 w2 ho2 hb2 _)
          go_roundw
          case rel => exact ⟨k + 1, by omega, by go_num, by rw [HS.out]; exact ho2, hb.trans hb2⟩
          case measure => simp [intOf]; omega
        · obtain rfl : k = ps.length := by omega
          have HO := Lib.hid ho
          clear ho
          go_wp2_with fail
          go_ret
          exact ⟨_, rfl, by have h := HO.out; rw [List.take_length] at h; exact h, hb⟩
theorem Parts.drew {w : World} {g : Nat} {ps : List Pt} (h : Parts w g ps) : Parts w.drew g ps := fun i p hp => ⟨(h i p hp).1, (h i p hp).2.drewN 1⟩
theorem parts3 (W : World) (t : TypeId) (A1 A2 A3 : Option Addr) (n1 n2 n3 c1 c2 c3 : Nat) (l1 l2 l3 : List Ly) (e1 : n1 = l1.length) (e2 : n2 = l2.length) (e3 : n3 = l3.length) (h1 : RdL W A1 l1) (h2 : RdL W A2 l2) (h3 : RdL W A3 l3) (g : Nat) (hg : g = W.heap.size) :
    Parts (W.alloc (.cells #[.slice A1 n1 c1, .slice A2 n2 c2, .slice A3 n3 c3] t)) g [⟨A1, c1, l1⟩, ⟨A2, c2, l2⟩, ⟨A3, c3, l3⟩] := by
  subst hg e1 e2 e3
  have hb := bl_alloc (Below.refl W.heap.size W) (.cells #[.slice A1 l1.length c1, .slice A2 l2.length c2, .slice A3 l3.length c3] t)
  intro i p hp
  match i with
  | 0 => simp at hp; subst hp; exact ⟨by simp [go_sem], h1.below hb⟩
  | 1 => simp at hp; subst hp; exact ⟨by simp [go_sem], h2.below hb⟩
  | 2 => simp at hp; subst hp; exact ⟨by simp [go_sem], h3.below hb⟩
  | i + 3 => simp at hp
theorem concat3_any (g : Nat) (A1 A2 A3 : Option Addr) (c1 c2 c3 : Nat) (l1 l2 l3 : List Ly) (w : World) (hp : Parts w g [⟨A1, c1, l1⟩, ⟨A2, c2, l2⟩, ⟨A3, c3, l3⟩]) (hg : g < w.heap.size) (hn : l1.length + l2.length + l3.length ≤ 1048576) :
    Calls Try.prog 20 #[.slice (some ⟨g, 0, none⟩) 3 3] w (GivesL w (l1 ++ l2 ++ l3)) := by
  have e : catP [⟨A1, c1, l1⟩, ⟨A2, c2, l2⟩, ⟨A3, c3, l3⟩] = l1 ++ l2 ++ l3 := by simp [catP]
  have := concat_any g 3 [⟨A1, c1, l1⟩, ⟨A2, c2, l2⟩, ⟨A3, c3, l3⟩] w hp hg (by simp) (by rw [e]; simp only [List.length_append]; omega)
  rw [e] at this
  exact this
end Go.Proofs.Ythlandlpjhdbdaa
