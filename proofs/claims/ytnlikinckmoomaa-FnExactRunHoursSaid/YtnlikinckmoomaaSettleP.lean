/- A profile an hour later: the contracts of the program's and of the reference's SettleProfile and what they call. -/
import Derived.Test.YtnlikinckmoomaaInp
import Derived.Test.YtnlikinckmoomaaLoad
import Derived.Deep.RegionHeld3
import Derived.Deep.RegionWith
namespace Go.Proofs.Ytnlikinckmoomaa
open Go.ChangeShapes Go.WideShapes Go.ChangeAt Go.RowKit Go.Joins Go.Deep
set_option linter.unusedVariables false
def z7 : Ly := ⟨0, 0, 0, 0, 0, 0, 0⟩
def settleAt (ls : List Ly) (k : Nat) : Ly := settleF (ls.getD k z7) (loadF ls k)
def settleL (ls : List Ly) : List Ly := (List.range ls.length).map (settleAt ls)
theorem settleL_len (ls : List Ly) : (settleL ls).length = ls.length := by simp [settleL]
theorem settleAt_eq {ls : List Ly} {k : Nat} (h : k < ls.length) : settleAt ls k = settleF ls[k] (loadF ls k) := by
  unfold settleAt
  rw [List.getD_eq_getElem?_getD, List.getElem?_eq_getElem h]
  rfl
theorem settleL_snoc {ls : List Ly} {k : Nat} (h : k < ls.length) : (settleL ls).take (k + 1) = (settleL ls).take k ++ [settleF ls[k] (loadF ls k)] := by
  rw [List.take_succ_eq_append_getElem (by rw [settleL_len]; exact h)]
  congr 2
  simp only [settleL, List.getElem_map, List.getElem_range]
  exact settleAt_eq h
theorem settle_VL {ls : List Ly} (V : VL ls) : VL (settleL ls) := VL.of_at (by rw [settleL_len]; exact V.len) fun k x hx => by
  have hk : k < ls.length := by have := (List.getElem?_eq_some_iff.1 hx).1; rwa [settleL_len] at this
  have e : (settleL ls)[k]? = some (settleF ls[k] (loadF ls k)) := by simp [settleL, hk, settleAt_eq]
  rw [e] at hx
  injection hx with hx
  subst hx
  obtain ⟨l0, l1⟩ := loadF_bd V k
  exact settle_b (V.get k hk) _ l0 l1
def AllR (w : World) (ls : List Ly) (v i : Value) (wr : World) : Prop := ∃ k : Nat, k ≤ ls.length ∧ i = .int .i64 k ∧ OwnS wr w.heap.size v ((settleL ls).take k) ∧ Below w.heap.size w wr
set_option maxHeartbeats 1000000 in
theorem l05All_any (A : Option Addr) (c : Nat) (ls : List Ly) (w : World) (hr : RdL w A ls) (V : VL ls) (hc : ls.length ≤ c) :
    Calls Try.prog 49 #[.slice A ls.length c] w (GivesL w (settleL ls)) := by
  have h16 := V.len
  have h0 : AllR w ls (.slice (some ⟨w.heap.size, 0, none⟩) 0 0) (.int .i64 0) (w.alloc (.cells #[] 45)) :=
    ⟨0, Nat.zero_le _, rfl, by rw [List.take_zero]; exact OwnS.made0 w _ (Nat.le_refl _), bl_alloc (Below.refl _ _) _⟩
  go_enter Try.func49, Try.ntmps49
  go_wp2_with fail
  go_loopw [3, 4] (AllR w ls) (fun _ i _ => ls.length - (intOf i).toNat)
  case atStart => exact h0
  case round =>
    obtain ⟨k, hk, rfl, ho, hb⟩ := hrel
    clear h0
    have HO := Lib.hid ho
    clear ho
    by_cases hlt : k < ls.length
    · have hr1 := hr.below hb
      obtain ⟨g, o, rfl, hx⟩ := hr1.at_ k hlt
      have HX := Lib.hid hx
      have HR := Lib.hid hr1
      have hB := V.get k hlt
      obtain ⟨l0, l1⟩ := loadF_bd V k
      have HS := Lib.hid (settleL_snoc hlt)
      have hln : ((settleL ls).take k).length = k := by rw [List.length_take, settleL_len]; omega
      have HLn := Lib.hid hln
      clear hr1 hx hln
      go_wp2_with fail
      go_region_held3 (fun w' => Below w.heap.size w w') (first | assumption | exact hb.drew | exact bl_trans (by assumption) (by assumption) | exact bl_alloc (by assumption) _ | exact (bl_alloc (by assumption) _).drew | exact Below.trans (by assumption) (by assumption))
        (first
          | (go_at_call 71; refine (l03Load_any _ c ls k _ (HR.out.drewN 1) V hc hlt).mono ?_; rintro e w' ⟨rfl, rfl⟩)
          | (go_at_call 70; refine (l05Settle_any ls[k] _ _ (loadF ls k) _ hB HX.out.drew (by omega) (by omega)).mono ?_; rintro e w2 ⟨rfl, hb2⟩; have HO2 := Lib.hid (OwnS.below (OwnS.drew HO.out) hb2))
          | (refine step_appL rfl (.tmp 12) (.tmp 20) rfl w.heap.size _ ((settleL ls).take k) [settleF ls[k] (loadF ls k)] _ _ (by simp [Act.eval]; rfl) (by simp [Act.eval]; exact ⟨rfl, rfl⟩) ?_ ?_ ?_ ?_ ?_; (exact OwnS.below HO2.out (bl_alloc (Below.refl _ _) _)); (exact RdL.one (LyAt.new' _ _ (settleF ls[k] (loadF ls k)) _ (by simp))); (have := HLn.out; simp; omega); (have := hb.size; have := hb2.size; simp at *; omega); intro v3 w3 ho3 hb3 hg3; have HO3 := Lib.hid ho3; clear ho3))
      go_wp2_with fail
      go_roundw
      case rel => exact ⟨k + 1, by omega, by go_num, by rw [HS.out]; exact HO3.out, by assumption⟩
      case measure => (simp [intOf]; try omega)
    · obtain rfl : k = ls.length := by omega
      go_wp2_with fail
      go_ret
      exact ⟨_, rfl, by have h := HO.out; rwa [List.take_of_length_le (by rw [settleL_len]; exact Nat.le_refl _)] at h, hb⟩
theorem G7_step {wq a b : World} {p g : Nat} {x : Ly} (hp : p < wq.heap.size) (h : a.cell? ⟨p, 0, none⟩ = some (.int .i64 x.form) ∧ a.cell? ⟨p, 1, none⟩ = some (.int .i64 x.ice) ∧ a.cell? ⟨p, 2, none⟩ = some (.int .i64 x.water) ∧ a.cell? ⟨p, 3, none⟩ = some (.int .i64 x.dens) ∧ a.cell? ⟨p, 4, none⟩ = some (.int .i64 x.deg) ∧ a.cell? ⟨p, 5, none⟩ = some (.int .i64 x.hard) ∧ a.cell? ⟨p, 6, none⟩ = some (.int .i64 x.age) ∧ wq.grownBy a (some g)) (hb : Below a.heap.size a b) :
    b.cell? ⟨p, 0, none⟩ = some (.int .i64 x.form) ∧ b.cell? ⟨p, 1, none⟩ = some (.int .i64 x.ice) ∧ b.cell? ⟨p, 2, none⟩ = some (.int .i64 x.water) ∧ b.cell? ⟨p, 3, none⟩ = some (.int .i64 x.dens) ∧ b.cell? ⟨p, 4, none⟩ = some (.int .i64 x.deg) ∧ b.cell? ⟨p, 5, none⟩ = some (.int .i64 x.hard) ∧ b.cell? ⟨p, 6, none⟩ = some (.int .i64 x.age) ∧ wq.grownBy b (some g) := by
  obtain ⟨c0, c1, c2, c3, c4, c5, c6, hG⟩ := h
  have hp2 : p < a.heap.size := Nat.lt_of_lt_of_le hp hG.size
  exact ⟨(hb.cell (p := ⟨p, _, none⟩) hp2).trans c0, (hb.cell (p := ⟨p, _, none⟩) hp2).trans c1, (hb.cell (p := ⟨p, _, none⟩) hp2).trans c2, (hb.cell (p := ⟨p, _, none⟩) hp2).trans c3, (hb.cell (p := ⟨p, _, none⟩) hp2).trans c4, (hb.cell (p := ⟨p, _, none⟩) hp2).trans c5, (hb.cell (p := ⟨p, _, none⟩) hp2).trans c6, only_below hG hb⟩
theorem G7_chain {wq a : World} {p g o : Nat} {x : Ly} {u0 u1 u2 u3 u4 u5 u6 : Value} (hpg : p ≠ g) (h : a.cell? ⟨p, 0, none⟩ = some (.int .i64 x.form) ∧ a.cell? ⟨p, 1, none⟩ = some (.int .i64 x.ice) ∧ a.cell? ⟨p, 2, none⟩ = some (.int .i64 x.water) ∧ a.cell? ⟨p, 3, none⟩ = some (.int .i64 x.dens) ∧ a.cell? ⟨p, 4, none⟩ = some (.int .i64 x.deg) ∧ a.cell? ⟨p, 5, none⟩ = some (.int .i64 x.hard) ∧ a.cell? ⟨p, 6, none⟩ = some (.int .i64 x.age) ∧ wq.grownBy a (some g)) :
    (((((((a.setCell ⟨g, o, none⟩ u0).setCell ⟨g, o + 1, none⟩ u1).setCell ⟨g, o + 2, none⟩ u2).setCell ⟨g, o + 3, none⟩ u3).setCell ⟨g, o + 4, none⟩ u4).setCell ⟨g, o + 5, none⟩ u5).setCell ⟨g, o + 6, none⟩ u6).cell? ⟨p, 0, none⟩ = some (.int .i64 x.form) ∧ (((((((a.setCell ⟨g, o, none⟩ u0).setCell ⟨g, o + 1, none⟩ u1).setCell ⟨g, o + 2, none⟩ u2).setCell ⟨g, o + 3, none⟩ u3).setCell ⟨g, o + 4, none⟩ u4).setCell ⟨g, o + 5, none⟩ u5).setCell ⟨g, o + 6, none⟩ u6).cell? ⟨p, 1, none⟩ = some (.int .i64 x.ice) ∧ (((((((a.setCell ⟨g, o, none⟩ u0).setCell ⟨g, o + 1, none⟩ u1).setCell ⟨g, o + 2, none⟩ u2).setCell ⟨g, o + 3, none⟩ u3).setCell ⟨g, o + 4, none⟩ u4).setCell ⟨g, o + 5, none⟩ u5).setCell ⟨g, o + 6, none⟩ u6).cell? ⟨p, 2, none⟩ = some (.int .i64 x.water) ∧ (((((((a.setCell ⟨g, o, none⟩ u0).setCell ⟨g, o + 1, none⟩ u1).setCell ⟨g, o + 2, none⟩ u2).setCell ⟨g, o + 3, none⟩ u3).setCell ⟨g, o + 4, none⟩ u4).setCell ⟨g, o + 5, none⟩ u5).setCell ⟨g, o + 6, none⟩ u6).cell? ⟨p, 3, none⟩ = some (.int .i64 x.dens) ∧ (((((((a.setCell ⟨g, o, none⟩ u0).setCell ⟨g, o + 1, none⟩ u1).setCell ⟨g, o + 2, none⟩ u2).setCell ⟨g, o + 3, none⟩ u3).setCell ⟨g, o + 4, none⟩ u4).setCell ⟨g, o + 5, none⟩ u5).setCell ⟨g, o + 6, none⟩ u6).cell? ⟨p, 4, none⟩ = some (.int .i64 x.deg) ∧ (((((((a.setCell ⟨g, o, none⟩ u0).setCell ⟨g, o + 1, none⟩ u1).setCell ⟨g, o + 2, none⟩ u2).setCell ⟨g, o + 3, none⟩ u3).setCell ⟨g, o + 4, none⟩ u4).setCell ⟨g, o + 5, none⟩ u5).setCell ⟨g, o + 6, none⟩ u6).cell? ⟨p, 5, none⟩ = some (.int .i64 x.hard) ∧ (((((((a.setCell ⟨g, o, none⟩ u0).setCell ⟨g, o + 1, none⟩ u1).setCell ⟨g, o + 2, none⟩ u2).setCell ⟨g, o + 3, none⟩ u3).setCell ⟨g, o + 4, none⟩ u4).setCell ⟨g, o + 5, none⟩ u5).setCell ⟨g, o + 6, none⟩ u6).cell? ⟨p, 6, none⟩ = some (.int .i64 x.age) ∧ wq.grownBy (((((((a.setCell ⟨g, o, none⟩ u0).setCell ⟨g, o + 1, none⟩ u1).setCell ⟨g, o + 2, none⟩ u2).setCell ⟨g, o + 3, none⟩ u3).setCell ⟨g, o + 4, none⟩ u4).setCell ⟨g, o + 5, none⟩ u5).setCell ⟨g, o + 6, none⟩ u6) (some g) := by
  obtain ⟨c0, c1, c2, c3, c4, c5, c6, hG⟩ := h
  have hb : (((((((a.setCell ⟨g, o, none⟩ u0).setCell ⟨g, o + 1, none⟩ u1).setCell ⟨g, o + 2, none⟩ u2).setCell ⟨g, o + 3, none⟩ u3).setCell ⟨g, o + 4, none⟩ u4).setCell ⟨g, o + 5, none⟩ u5).setCell ⟨g, o + 6, none⟩ u6).heap[p]? = a.heap[p]? := by simp only [Below.heap_setCell _ _ _ p (show p ≠ (⟨g, _, none⟩ : Addr).block from hpg)]
  have hc : ∀ j, (((((((a.setCell ⟨g, o, none⟩ u0).setCell ⟨g, o + 1, none⟩ u1).setCell ⟨g, o + 2, none⟩ u2).setCell ⟨g, o + 3, none⟩ u3).setCell ⟨g, o + 4, none⟩ u4).setCell ⟨g, o + 5, none⟩ u5).setCell ⟨g, o + 6, none⟩ u6).cell? ⟨p, j, none⟩ = a.cell? ⟨p, j, none⟩ := fun j => World.cell?_of_block (a := ⟨p, j, none⟩) hb
  exact ⟨(hc _).trans c0, (hc _).trans c1, (hc _).trans c2, (hc _).trans c3, (hc _).trans c4, (hc _).trans c5, (hc _).trans c6, only_set (only_set (only_set (only_set (only_set (only_set (only_set hG _ _) _ _) _ _) _ _) _ _) _ _) _ _⟩
theorem settle_set {ls : List Ly} {k : Nat} (h : k < ls.length) (y : Ly) (P : List Ly) (hP : P.length = k) : (P ++ ls.drop k).set k y = (P ++ [y]) ++ ls.drop (k + 1) := by
  rw [List.set_append_right _ _ (by omega), hP, Nat.sub_self, drop_at ls k h, List.append_assoc]
  rfl
def SetR (w : World) (A : Option Addr) (ls : List Ly) (i : Value) (wr : World) : Prop := ∃ k : Nat, k ≤ ls.length ∧ i = .int .i64 k ∧ OwnO wr w.heap.size A ((settleL ls).take k ++ ls.drop k) ∧ Below w.heap.size w wr
set_option maxHeartbeats 2000000 in
theorem settledP_any (A : Option Addr) (c : Nat) (ls : List Ly) (w : World) (hr : RdL w A ls) (V : VL ls) (hc : ls.length ≤ c) :
    Calls Try.prog 50 #[.slice A ls.length c] w fun e w' => ∃ A' c', e = .returned (.slice A' (settleL ls).length c') ∧ (settleL ls).length ≤ c' ∧ OwnO w' w.heap.size A' (settleL ls) ∧ Below w.heap.size w w' := by
  have h16 := V.len
  go_enter Try.func50, Try.ntmps50
  go_wp2_with fail
  refine (clone_any A c ls _ hr (by omega)).mono ?_
  rintro e w1 ⟨v1, rfl, hs1, hb1⟩
  obtain ⟨A1, c1, rfl, ho1⟩ := hs1.out
  have hcap := hs1.cap
  have h0 : SetR w A1 ls (.int .i64 0) w1 := ⟨0, Nat.zero_le _, rfl, by simpa using ho1, hb1⟩
  go_wp2_with fail
  go_loopw [10] (SetR w A1 ls) (fun i _ => ls.length - (intOf i).toNat)
  case atStart => exact h0
  case round =>
    obtain ⟨k, hk, rfl, ho, hb⟩ := hrel
    clear h0 ho1 hs1 hb1
    by_cases hlt : k < ls.length
    · have hr1 := hr.below hb
      obtain ⟨g0, o, rfl, hx⟩ := hr1.at_ k hlt
      have hln : ((settleL ls).take k).length = k := by rw [List.length_take, settleL_len]; omega
      have hat : ((settleL ls).take k ++ ls.drop k)[k]? = some ls[k] := by
        rw [List.getElem?_append_right (by omega), hln, Nat.sub_self, drop_at ls k hlt]; rfl
      rcases ho with ho | ⟨g, rfl, hBg, ho⟩
      · rw [ho] at hat
        simp at hat
      have HX := Lib.hid hx
      have HR := Lib.hid hr1
      have HAT := Lib.hid hat
      have HO := Lib.hid ho
      have HBg := Lib.hid hBg
      have hB := V.get k hlt
      obtain ⟨l0, l1⟩ := loadF_bd V k
      have HS := Lib.hid (settleL_snoc hlt)
      have HW := Lib.hid (settle_set hlt (settleF ls[k] (loadF ls k)) ((settleL ls).take k) hln)
      have hgl := ho.lt
      obtain ⟨c0, c1', c2, c3, c4, c5, c6⟩ := hx
      clear hr1 hat hln ho
      go_wp2_with fail
      clear c0 c1' c2 c3 c4 c5 c6
      have hN := LyAt.new wr 45 ls[k]
      have hbN := bl_alloc (Below.refl wr.heap.size wr) (.cells #[.int .i64 ls[k].form, .int .i64 ls[k].ice, .int .i64 ls[k].water, .int .i64 ls[k].dens, .int .i64 ls[k].deg, .int .i64 ls[k].hard, .int .i64 ls[k].age] 45)
      obtain ⟨p, hp⟩ : ∃ p, p = wr.heap.size := ⟨_, rfl⟩
      rw [← hp] at hN
      rw [← hp]
      have hpg : p ≠ g := by omega
      clear hp
      obtain ⟨wq, hwq⟩ : ∃ wq, wq = wr.alloc (.cells #[.int .i64 ls[k].form, .int .i64 ls[k].ice, .int .i64 ls[k].water, .int .i64 ls[k].dens, .int .i64 ls[k].deg, .int .i64 ls[k].hard, .int .i64 ls[k].age] 45) := ⟨_, rfl⟩
      rw [← hwq] at hN hbN
      rw [← hwq]
      clear hwq
      have hpl := hN.lt
      generalize hxk : ls[k] = x at *
      have HXK := Lib.hid hxk
      obtain ⟨c0, c1', c2, c3, c4, c5, c6⟩ := hN.box
      have HN := Lib.hid hN
      clear hN
      clear hxk
      go_region_with (first
          | (go_at_call 73; refine (loadAbove_any _ c ls k _ ((HR.out.below hbN).drewN 1) V hc hlt).mono ?_; rintro e w2 ⟨rfl, hb2⟩; obtain ⟨k0, k1, k2, k3, k4, k5, k6⟩ := ((HN.out.drew).below hb2 hpl).box)
          | (go_at_call 72; refine (settled_any x (loadF ls k) _ hB (by omega) (by omega)).mono ?_; rintro e w3 ⟨rfl, hb3⟩; have hO3 := ((HO.out.below hbN).drewN 1).below (hb2.trans (hb3.mono hb2.size)); have hX3 := hO3.at_ HAT.out; have hg3 : wq.grownBy w3 (some g) := only_below (only_below (only_drew (only_refl wq _)) hb2) hb3; obtain ⟨d0, d1, d2, d3, d4, d5, d6⟩ := hX3; have f0 := hO3.frozen (k * 7); have f1 := hO3.frozen (k * 7 + 1); have f2 := hO3.frozen (k * 7 + 2); have f3 := hO3.frozen (k * 7 + 3); have f4 := hO3.frozen (k * 7 + 4); have f5 := hO3.frozen (k * 7 + 5); have f6 := hO3.frozen (k * 7 + 6); have HO3 := Lib.hid hO3; clear hO3))
      all_goals
        go_wp2_with fail
        clear d0 d1 d2 d3 d4 d5 d6 f0 f1 f2 f3 f4 f5 f6
        go_roundw
        case rel =>
          have hst := HO3.out.stored7 HAT.out (settleF x (loadF ls k))
          rw [HW.out, ← HS.out] at hst
          have hB3 : Below w.heap.size w w3 := (bl_trans hb hbN).grown hg3 (bl_trans hb hbN).size (fun q hq => by injection hq with hq; have := HBg.out; omega)
          have hfin : SetR w (some ⟨g, 0, none⟩) ls (.int .i64 ((k + 1 : Nat) : Int)) (store7 w3 g (k * 7) (settleF x (loadF ls k))) := ⟨k + 1, by omega, rfl, .inr ⟨g, rfl, HBg.out, hst⟩, put7_below hB3 HBg.out _ _⟩
          exact hfin
        case measure => (simp [intOf]; try omega)
    · obtain rfl : k = ls.length := by omega
      go_wp2_with fail
      go_ret
      refine ⟨A1, c1, by rw [settleL_len]; rfl, by rw [settleL_len]; exact hcap, ?_, hb⟩
      rwa [List.drop_length, List.append_nil, List.take_of_length_le (by rw [settleL_len]; exact Nat.le_refl _)] at ho
def settlePR (ls : List Ly) : List Ly := if okL ls then settleL ls else []
theorem settlePR_len (ls : List Ly) (hn : ls.length ≤ 1048576) : (settlePR ls).length ≤ 1048576 := by
  unfold settlePR
  split
  · rw [settleL_len]; exact hn
  · simp
theorem sPR_t {ls : List Ly} (h : okL ls = true) : settlePR ls = settleL ls ∧ codeOk ls = 0 := by unfold settlePR; rw [h]; exact ⟨rfl, codeOk_t h⟩
theorem sPR_f {ls : List Ly} (h : okL ls = false) : settlePR ls = [] ∧ codeOk ls = 1 := by unfold settlePR; rw [h]; exact ⟨rfl, codeOk_f h⟩
/-- The call returns a list of its own and a code. -/
def GivesOC (w : World) (R : List Ly) (code : Int) (e : Ending) (w' : World) : Prop := ∃ v, e = .returned (.tuple #[v, .int .i64 code]) ∧ (∃ A c, v = .slice A R.length c ∧ OwnO w' w.heap.size A R) ∧ Below w.heap.size w w'
theorem specSettleP_any (A : Option Addr) (c : Nat) (ls : List Ly) (w : World) (hr : RdL w A ls) (hn : ls.length ≤ 1048576) (hc : ls.length ≤ c) :
    Calls Try.prog 20 #[.slice A ls.length c] w (GivesOC w (settlePR ls) (codeOk ls)) := by
  rcases hok : okL ls with _ | _
  · have F := Lib.hid (sPR_f hok)
    go_enter Try.func20, Try.ntmps20
    go_wp2_with (go_at_call 35; refine (l03Ok_any A c ls _ hr hn).mono ?_; rintro e w' ⟨rfl, rfl⟩)
    go_ret2
    exact ⟨_, by rw [F.out.2]; rfl, ⟨none, 0, by rw [F.out.1]; rfl, .inl F.out.1⟩, Below.refl _ _⟩
  · have F := Lib.hid (sPR_t hok)
    have V := VL.of_ok hok
    go_enter Try.func20, Try.ntmps20
    go_wp2_with (first | (go_at_call 35; refine (l03Ok_any A c ls _ hr hn).mono ?_; rintro e w' ⟨rfl, rfl⟩) | (go_at_call 49; refine (l05All_any A c ls _ hr V hc).mono ?_; rintro e w1 ⟨v1, rfl, hs1, hb1⟩))
    go_ret2
    exact ⟨_, by rw [F.out.2]; rfl, by rw [F.out.1]; exact hs1.out, hb1⟩
theorem implSettleP_any (A : Option Addr) (c : Nat) (ls : List Ly) (w : World) (hr : RdL w A ls) (hn : ls.length ≤ 1048576) (hc : ls.length ≤ c) :
    Calls Try.prog 21 #[.slice A ls.length c] w (GivesOC w (settlePR ls) (codeOk ls)) := by
  rcases hok : okL ls with _ | _
  · have F := Lib.hid (sPR_f hok)
    go_enter Try.func21, Try.ntmps21
    go_wp2_with (go_at_call 40; refine (validProfile_any A c ls _ hr hn).mono ?_; rintro e w1 ⟨rfl, hb1⟩)
    go_ret2
    exact ⟨_, by rw [F.out.2]; rfl, ⟨none, 0, by rw [F.out.1]; rfl, .inl F.out.1⟩, hb1⟩
  · have F := Lib.hid (sPR_t hok)
    have V := VL.of_ok hok
    go_enter Try.func21, Try.ntmps21
    go_wp2_with fail
    refine (validProfile_any A c ls _ hr hn).mono ?_
    rintro e w1 ⟨rfl, hb1⟩
    go_wp2_with fail
    refine (settledP_any A c ls _ (hr.below hb1) V hc).mono ?_
    rintro e w2 ⟨A2, c2, rfl, _, ho2, hb2⟩
    go_wp2_with fail
    go_ret2
    exact ⟨_, by rw [F.out.2]; rfl, ⟨A2, c2, by rw [F.out.1]; rfl, by rw [F.out.1]; exact ho2.mono hb1.size⟩, bl_trans hb1 hb2⟩
end Go.Proofs.Ytnlikinckmoomaa
