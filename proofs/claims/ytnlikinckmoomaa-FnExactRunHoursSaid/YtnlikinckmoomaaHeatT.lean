/- Heat from the top of a profile: the program's loop, with warming and with cooling. -/
import Derived.Test.YtnlikinckmoomaaCool
namespace Go.Proofs.Ytnlikinckmoomaa
open Go.ChangeShapes Go.WideShapes Go.ChangeAt Go.RowKit Go.Joins Go.Deep
set_option linter.unusedVariables false
def HeatR (f : HeatF) (j : Int) (w : World) (g : Nat) (ls : List Ly) (q i : Value) (wr : World) : Prop := ∃ n : Int, i = .int .i64 n ∧ -1 ≤ n ∧ n < ls.length ∧ (heatA f j (ls.drop (n + 1).toNat)).go = true ∧ q = .int .i64 (heatA f j (ls.drop (n + 1).toNat)).j ∧ OwnL wr g 45 (ls.take (n + 1).toNat ++ (heatA f j (ls.drop (n + 1).toNat)).l) ∧ w.grownBy wr (some g)
theorem HeatR.start {f : HeatF} {j : Int} {w : World} {g : Nat} {ls : List Ly} (h : OwnL w g 45 ls) : HeatR f j w g ls (.int .i64 j) (.int .i64 ((ls.length : Int) - 1)) w := by
  have e : ((ls.length : Int) - 1 + 1).toNat = ls.length := by omega
  refine ⟨_, rfl, by omega, by omega, ?_, ?_, ?_, only_refl _ _⟩
  · rw [e, List.drop_length]; rfl
  · rw [e, List.drop_length]; rfl
  · rw [e, List.drop_length, List.take_length]; simpa [heatA] using h
theorem cur_set' (ls L : List Ly) (k : Nat) (h : k < ls.length) (y : Ly) : (ls.take (k + 1) ++ L).set k y = ls.take k ++ y :: L := cur_set ls L k h y
theorem heat_drop {ls : List Ly} (V : VL ls) (f : HeatF) (hf : HeatB f) {j : Int} (h0 : 0 ≤ j) (h1 : j ≤ 100000000) (k : Nat) : 0 ≤ (heatA f j (ls.drop k)).j ∧ (heatA f j (ls.drop k)).j ≤ 100000000 := by
  obtain ⟨a, b, _⟩ := heatA_bd f hf j h0 h1 (ls.drop k) (V.mem_drop k)
  exact ⟨a, b⟩
theorem HeatR.next {f : HeatF} {j : Int} {w wr' : World} {g : Nat} {ls : List Ly} {k : Nat} (hk : k < ls.length) (hgo : (heatA f j (ls.drop (k + 1))).go = true) (hb : f.B ls[k] (heatA f j (ls.drop (k + 1))).j = true) (hg : w.grownBy wr' (some g))
    (ho : OwnL wr' g 45 ((ls.take (k + 1) ++ (heatA f j (ls.drop (k + 1))).l).set k (f.X ls[k] (heatA f j (ls.drop (k + 1))).j))) :
    HeatR f j w g ls (.int .i64 (f.J ls[k] (heatA f j (ls.drop (k + 1))).j)) (.int .i64 ((k : Int) - 1)) wr' := by
  have e : ((k : Int) - 1 + 1).toNat = k := by omega
  have h := heat_at f j ls k hk hgo
  rw [cur_set' _ _ _ hk] at ho
  refine ⟨_, rfl, by omega, by omega, ?_, ?_, ?_, hg⟩
  · rw [e, h]; exact hb
  · rw [e, h]
  · rw [e, h]; exact ho
theorem heat_last {f : HeatF} {j : Int} {w wr' : World} {g : Nat} {ls : List Ly} {k : Nat} (hk : k < ls.length) (hgo : (heatA f j (ls.drop (k + 1))).go = true) (hb : f.B ls[k] (heatA f j (ls.drop (k + 1))).j = false)
    (ho : OwnL wr' g 45 ((ls.take (k + 1) ++ (heatA f j (ls.drop (k + 1))).l).set k (f.X ls[k] (heatA f j (ls.drop (k + 1))).j))) :
    (heatA f j ls).j = f.J ls[k] (heatA f j (ls.drop (k + 1))).j ∧ OwnL wr' g 45 (heatA f j ls).l := by
  have h := heat_at f j ls k hk hgo
  rw [cur_set' _ _ _ hk] at ho
  obtain ⟨a, b⟩ := heat_stop f j ls k (by omega) (by rw [h]; exact hb)
  refine ⟨by rw [a, h], ?_⟩
  rw [b, h]
  exact ho
set_option maxHeartbeats 1000000 in
theorem heatW_own (g c : Nat) (ls : List Ly) (j : Int) (w : World) (h : OwnL w g 45 ls) (V : VL ls) (h0 : 0 ≤ j) (h1 : j ≤ 100000000) :
    Calls Try.prog 53 #[.slice (some ⟨g, 0, none⟩) ls.length c, .int .i64 j, .func (.func 56) #[] #[]] w fun e w' => e = .returned (.int .i64 (heatA warmF j ls).j) ∧ OwnL w' g 45 (heatA warmF j ls).l ∧ w.grownBy w' (some g) := by
  have h16 := V.len
  have hD := HeatR.start (f := warmF) (j := j) h
  go_enter Try.func53, Try.ntmps53
  go_wp2_with fail
  go_loopw [1, 7] (HeatR warmF j w g ls) (fun _ i _ => (intOf i + 1).toNat)
  case atStart => exact hD
  case round =>
    obtain ⟨n, rfl, n0, n1, hgo, rfl, ho, hg⟩ := hrel
    clear hD h
    by_cases hneg : n < 0
    · obtain rfl : n = -1 := by omega
      go_wp2_with fail
      go_ret
      have e : ((-1 : Int) + 1).toNat = 0 := rfl
      rw [e] at ho
      exact ⟨ret_int (by rw [e]; rfl), by simpa using ho, hg⟩
    · obtain ⟨k, rfl⟩ := Int.eq_ofNat_of_zero_le (show 0 ≤ n by omega)
      have hk : k < ls.length := by omega
      have e : ((k : Int) + 1).toNat = k + 1 := by omega
      rw [e] at ho hgo ⊢
      have hB := V.get k hk
      obtain ⟨q0, q1⟩ := heat_drop V warmF warm_hb h0 h1 (k + 1)
      have hat := cur_at ls (heatA warmF j (ls.drop (k + 1))).l k hk
      have HNX := Lib.hid (fun wr' hb hg ho => HeatR.next (f := warmF) (j := j) (w := w) (wr' := wr') (g := g) hk hgo hb hg ho)
      have HLA := Lib.hid (fun wr' hb ho => heat_last (f := warmF) (j := j) (w := w) (wr' := wr') (g := g) hk hgo hb ho)
      have HO := Lib.hid ho
      have HAT := Lib.hid hat
      have HG := Lib.hid hg
      clear ho hat hg hgo e
      generalize (heatA warmF j (ls.drop (k + 1))).j = jj at *
      generalize ls.take (k + 1) ++ (heatA warmF j (ls.drop (k + 1))).l = ms at *
      rcases hb : warmB ls[k] jj with _ | _
      · have HB := Lib.hid hb
        go_wp2_with fail
        refine (warm_any g k ms ls[k] jj wr HO.out HAT.out hB q0 q1).mono ?_
        rintro e w1 ⟨rfl, ho1, hg1⟩
        have HL := Lib.hid (HLA.out w1 HB.out ho1)
        go_wp2_with fail
        go_ret
        exact ⟨ret_int HL.out.1.symm, HL.out.2, only_trans HG.out hg1⟩
      · have HB := Lib.hid hb
        go_wp2_with fail
        refine (warm_any g k ms ls[k] jj wr HO.out HAT.out hB q0 q1).mono ?_
        rintro e w1 ⟨rfl, ho1, hg1⟩
        have HN := Lib.hid (HNX.out w1 HB.out (only_trans HG.out hg1) ho1)
        go_wp2_with fail
        go_roundw
        case rel => exact HN.out
        case measure => (simp [intOf]; try omega)
theorem heatW_nil (A : Option Addr) (c : Nat) (j : Int) (w : World) :
    Calls Try.prog 53 #[.slice A 0 c, .int .i64 j, .func (.func 56) #[] #[]] w fun e w' => e = .returned (.int .i64 j) ∧ w = w' := by
  go_enter Try.func53, Try.ntmps53
  go_wp2_with fail
  go_loop [1, 7] (fun q i => q = .int .i64 j ∧ i = .int .i64 (-1)) (fun _ _ => 0)
  case atStart => exact ⟨rfl, rfl⟩
  case round =>
    obtain ⟨rfl, rfl⟩ := hrel
    go_wp2_with fail
    go_ret
    exact ⟨rfl, rfl⟩
theorem heatW_any (A : Option Addr) (c B : Nat) (ls : List Ly) (j : Int) (w : World) (h : OwnO w B A ls) (hB : B ≤ w.heap.size) (V : VL ls) (h0 : 0 ≤ j) (h1 : j ≤ 100000000) :
    Calls Try.prog 53 #[.slice A ls.length c, .int .i64 j, .func (.func 56) #[] #[]] w (TurnsL w B A (heatA warmF j ls).j (heatA warmF j ls).l) := by
  rcases h with rfl | ⟨g, rfl, hg, h⟩
  · exact (heatW_nil A c j w).mono fun e w' ⟨he, hw⟩ => ⟨he, .inl rfl, hw ▸ Below.refl _ _⟩
  · exact (heatW_own g c ls j w h V h0 h1).mono fun e w' ⟨he, h1, h2⟩ => ⟨he, OwnO.changed hg hB h1 h2⟩
set_option maxHeartbeats 1000000 in
theorem heatC_own (g c : Nat) (ls : List Ly) (j : Int) (w : World) (h : OwnL w g 45 ls) (V : VL ls) (h0 : 0 ≤ j) (h1 : j ≤ 100000000) :
    Calls Try.prog 53 #[.slice (some ⟨g, 0, none⟩) ls.length c, .int .i64 j, .func (.func 54) #[] #[]] w fun e w' => e = .returned (.int .i64 (heatA coolF j ls).j) ∧ OwnL w' g 45 (heatA coolF j ls).l ∧ w.grownBy w' (some g) := by
  have h16 := V.len
  have hD := HeatR.start (f := coolF) (j := j) h
  go_enter Try.func53, Try.ntmps53
  go_wp2_with fail
  go_loopw [1, 7] (HeatR coolF j w g ls) (fun _ i _ => (intOf i + 1).toNat)
  case atStart => exact hD
  case round =>
    obtain ⟨n, rfl, n0, n1, hgo, rfl, ho, hg⟩ := hrel
    clear hD h
    by_cases hneg : n < 0
    · obtain rfl : n = -1 := by omega
      go_wp2_with fail
      go_ret
      have e : ((-1 : Int) + 1).toNat = 0 := rfl
      rw [e] at ho
      exact ⟨ret_int (by rw [e]; rfl), by simpa using ho, hg⟩
    · obtain ⟨k, rfl⟩ := Int.eq_ofNat_of_zero_le (show 0 ≤ n by omega)
      have hk : k < ls.length := by omega
      have e : ((k : Int) + 1).toNat = k + 1 := by omega
      rw [e] at ho hgo ⊢
      have hB := V.get k hk
      obtain ⟨q0, q1⟩ := heat_drop V coolF cool_hb h0 h1 (k + 1)
      have hat := cur_at ls (heatA coolF j (ls.drop (k + 1))).l k hk
      have HNX := Lib.hid (fun wr' hb hg ho => HeatR.next (f := coolF) (j := j) (w := w) (wr' := wr') (g := g) hk hgo hb hg ho)
      have HLA := Lib.hid (fun wr' hb ho => heat_last (f := coolF) (j := j) (w := w) (wr' := wr') (g := g) hk hgo hb ho)
      have HO := Lib.hid ho
      have HAT := Lib.hid hat
      have HG := Lib.hid hg
      clear ho hat hg hgo e
      generalize (heatA coolF j (ls.drop (k + 1))).j = jj at *
      generalize ls.take (k + 1) ++ (heatA coolF j (ls.drop (k + 1))).l = ms at *
      rcases hb : coolB ls[k] jj with _ | _
      · have HB := Lib.hid hb
        go_wp2_with fail
        refine (cool_any g k ms ls[k] jj wr HO.out HAT.out hB q0 q1).mono ?_
        rintro e w1 ⟨rfl, ho1, hg1⟩
        have HL := Lib.hid (HLA.out w1 HB.out ho1)
        go_wp2_with fail
        go_ret
        exact ⟨ret_int HL.out.1.symm, HL.out.2, only_trans HG.out hg1⟩
      · have HB := Lib.hid hb
        go_wp2_with fail
        refine (cool_any g k ms ls[k] jj wr HO.out HAT.out hB q0 q1).mono ?_
        rintro e w1 ⟨rfl, ho1, hg1⟩
        have HN := Lib.hid (HNX.out w1 HB.out (only_trans HG.out hg1) ho1)
        go_wp2_with fail
        go_roundw
        case rel => exact HN.out
        case measure => (simp [intOf]; try omega)
theorem heatC_nil (A : Option Addr) (c : Nat) (j : Int) (w : World) :
    Calls Try.prog 53 #[.slice A 0 c, .int .i64 j, .func (.func 54) #[] #[]] w fun e w' => e = .returned (.int .i64 j) ∧ w = w' := by
  go_enter Try.func53, Try.ntmps53
  go_wp2_with fail
  go_loop [1, 7] (fun q i => q = .int .i64 j ∧ i = .int .i64 (-1)) (fun _ _ => 0)
  case atStart => exact ⟨rfl, rfl⟩
  case round =>
    obtain ⟨rfl, rfl⟩ := hrel
    go_wp2_with fail
    go_ret
    exact ⟨rfl, rfl⟩
theorem heatC_any (A : Option Addr) (c B : Nat) (ls : List Ly) (j : Int) (w : World) (h : OwnO w B A ls) (hB : B ≤ w.heap.size) (V : VL ls) (h0 : 0 ≤ j) (h1 : j ≤ 100000000) :
    Calls Try.prog 53 #[.slice A ls.length c, .int .i64 j, .func (.func 54) #[] #[]] w (TurnsL w B A (heatA coolF j ls).j (heatA coolF j ls).l) := by
  rcases h with rfl | ⟨g, rfl, hg, h⟩
  · exact (heatC_nil A c j w).mono fun e w' ⟨he, hw⟩ => ⟨he, .inl rfl, hw ▸ Below.refl _ _⟩
  · exact (heatC_own g c ls j w h V h0 h1).mono fun e w' ⟨he, h1, h2⟩ => ⟨he, OwnO.changed hg hB h1 h2⟩
end Go.Proofs.Ytnlikinckmoomaa
