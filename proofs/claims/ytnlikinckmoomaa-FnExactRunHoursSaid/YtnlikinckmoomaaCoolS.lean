/- Heat from the top of a profile: the reference's loop, with cooling. -/
import Derived.Test.YtnlikinckmoomaaHeatS
namespace Go.Proofs.Ytnlikinckmoomaa
open Go.ChangeShapes Go.WideShapes Go.ChangeAt Go.RowKit Go.Joins Go.Deep
set_option linter.unusedVariables false
set_option maxRecDepth 100000 in
set_option maxHeartbeats 4000000 in
theorem l05Cool_any (A : Option Addr) (c : Nat) (ls : List Ly) (j : Int) (w : World) (hr : RdL w A ls) (V : VL ls) (h0 : 0 ≤ j) (h1 : j ≤ 100000000) :
    Calls Try.prog 52 #[.slice A ls.length c, .int .i64 j] w (GivesLV w (heatA coolF j ls).l (heatA coolF j ls).j) := by
  have h16 := V.len
  go_enter Try.func52, Try.ntmps52
  go_wp2_with fail
  refine (l05Own_any A c ls w hr (by omega)).mono ?_
  rintro e w1 ⟨v1, rfl, hs1, hb1⟩
  obtain ⟨A1, c1, rfl, ho1⟩ := hs1.out
  have hcap := hs1.cap
  clear hs1
  rcases ho1 with rfl | ⟨g, rfl, hBg, ho1⟩
  · go_wp2_with fail
    go_loop [1, 7] (fun q i => q = .int .i64 j ∧ i = .int .i64 (-1)) (fun _ _ => 0)
    case atStart => exact ⟨rfl, rfl⟩
    case round =>
      obtain ⟨rfl, rfl⟩ := hrel
      go_wp2_with fail
      go_ret2
      exact ⟨_, rfl, ⟨A1, c1, rfl, Nat.zero_le _, .inl rfl⟩, hb1⟩
  have hD := HeatR.start (f := coolF) (j := j) ho1
  go_wp2_with fail
  go_loopw [1, 7] (HeatR coolF j w1 g ls) (fun _ i _ => (intOf i + 1).toNat)
  case atStart => exact hD
  case round =>
    obtain ⟨n, rfl, n0, n1, hgo, rfl, ho, hg⟩ := hrel
    clear hD ho1
    by_cases hneg : n < 0
    · obtain rfl : n = -1 := by omega
      go_wp2_with fail
      go_ret2
      have e : ((-1 : Int) + 1).toNat = 0 := rfl
      rw [e] at ho
      exact HeatR.ends hBg hb1 hg (by simpa using ho) (by rw [e]; rfl) rfl hcap
    · obtain ⟨k, rfl⟩ := Int.eq_ofNat_of_zero_le (show 0 ≤ n by omega)
      have hk : k < ls.length := by omega
      have e : ((k : Int) + 1).toNat = k + 1 := by omega
      rw [e] at ho hgo ⊢
      have hB := V.get k hk
      obtain ⟨q0, q1⟩ := heat_drop V coolF cool_hb h0 h1 (k + 1)
      have hat := cur_at ls (heatA coolF j (ls.drop (k + 1))).l k hk
      have HNX := Lib.hid (fun wr' hb hg ho => HeatR.next (f := coolF) (j := j) (w := w1) (wr' := wr') (g := g) hk hgo hb hg ho)
      have HLA := Lib.hid (fun wr' hb ho => heat_last (f := coolF) (j := j) (w := w1) (wr' := wr') (g := g) hk hgo hb ho)
      have HG := Lib.hid hg
      clear hg hgo e
      generalize (heatA coolF j (ls.drop (k + 1))).j = jj at *
      generalize ls.take (k + 1) ++ (heatA coolF j (ls.drop (k + 1))).l = ms at *
      generalize ls[k] = x at *
      have hkm : k < ms.length := (List.getElem?_eq_some_iff.1 hat).1
      have hl := ho.at_ hat
      have HS := Lib.hid (ho.set0 hat)
      have hf1 := ho.frozen (k * 7 + 1)
      have hf2 := ho.frozen (k * 7 + 2)
      have hf4 := ho.frozen (k * 7 + 4)
      have HF1 := Lib.hid hf1
      have HF2 := Lib.hid hf2
      have HF4 := Lib.hid hf4
      have HLt := Lib.hid hl
      clear ho hat hf1 hf2 hf4
      obtain ⟨i0, i1⟩ : 1 ≤ x.ice ∧ x.ice ≤ 1000000 := ⟨hB.i0, hB.i1⟩
      obtain ⟨v0, v1⟩ : 0 ≤ x.water ∧ x.water ≤ 1000000 := ⟨hB.w0, hB.w1⟩
      obtain ⟨d0, d1⟩ : -4000 ≤ x.deg ∧ x.deg ≤ 0 := ⟨hB.g0, hB.g1⟩
      obtain ⟨x0, x1, x2, x3⟩ := coolG_bd hB q0 q1
      obtain ⟨y0, y1, y2⟩ := coolD_bd hB q0 q1
      have hG : minI (jj / 334) (minI x.water (1000000 - x.ice)) = coolG x jj := rfl
      have hD : minI ((jj - coolG x jj * 334) * 1000 / (21 * (x.ice + coolG x jj))) (x.deg + 4000) = coolD x jj := rfl
      have hY : coolY x jj = (x.put 1 (x.ice + coolG x jj)).put 2 (x.water - coolG x jj) := rfl
      have FA := Lib.hid (fun h => cool_lt (x := x) (j := jj) h)
      have FB := Lib.hid (fun h => cool_ge (x := x) (j := jj) h)
      have hp : 0 ≤ coolD x jj * 21 * (x.ice + coolG x jj) := Int.mul_nonneg (by omega) (by omega)
      have hp2 : coolD x jj * 21 * (x.ice + coolG x jj) ≤ 84000 * 1000000 := Int.mul_le_mul (by omega) (by omega) (by omega) (by omega)
      generalize coolG x jj = G at *
      generalize coolD x jj = D at *
      have R1 : Hid (jj.tdiv 334 = jj / 334) := Lib.hid (Int.tdiv_eq_ediv_of_nonneg (by omega))
      have R2 : Hid (IntKind.i64.wrap (jj / 334) = jj / 334) := by show _ = _; rw [IntKind.wrap_i64]; omega
      have R4 : Hid (IntKind.i64.wrap (1000000 - x.ice) = 1000000 - x.ice) := by show _ = _; rw [IntKind.wrap_i64]; omega
      have R5 := Lib.hid hG
      obtain ⟨q, hq⟩ : ∃ q, q = (jj - G * 334) * 1000 / (21 * (x.ice + G)) := ⟨_, rfl⟩
      obtain ⟨u0, u1⟩ := div_le_self ((jj - G * 334) * 1000) (21 * (x.ice + G)) (by omega) (by omega)
      rw [← hq] at hD u0 u1
      have S1 : Hid (IntKind.i64.wrap ((jj - G * 334) * 1000) = (jj - G * 334) * 1000) := by show _ = _; rw [IntKind.wrap_i64]; omega
      have S2 : Hid (IntKind.i64.wrap (21 * (x.ice + G)) = 21 * (x.ice + G)) := by show _ = _; rw [IntKind.wrap_i64]; omega
      have S3 : Hid (((jj - G * 334) * 1000).tdiv (21 * (x.ice + G)) = q) := by show _ = _; rw [hq]; exact Int.tdiv_eq_ediv_of_nonneg (by omega)
      have S4 : Hid (IntKind.i64.wrap q = q) := by show _ = _; rw [IntKind.wrap_i64]; omega
      have S5 : Hid (IntKind.i64.wrap (x.deg - -4000) = x.deg + 4000) := by show _ = _; rw [IntKind.wrap_i64]; omega
      have S6 : Hid (IntKind.i64.wrap (x.deg + 4000) = x.deg + 4000) := by show _ = _; rw [IntKind.wrap_i64]; omega
      have S7 := Lib.hid hD
      have Z1 : Hid (¬ 21 * (x.ice + G) = 0) := Lib.hid (by omega)
      obtain ⟨M, hM⟩ : ∃ M, M = minI (jj - G * 334) ((D * 21 * (x.ice + G) + 999) / 1000) := ⟨_, rfl⟩
      have m0 : 0 ≤ M := by rw [hM]; unfold minI; split <;> omega
      have m1 : M ≤ jj - G * 334 := by rw [hM]; unfold minI; split <;> omega
      have S8 := Lib.hid hM.symm
      rw [← hM] at FB
      have HY := Lib.hid hY
      clear hG hq hD hM hY
      by_cases hw : 0 < x.water - G
      · have F := Lib.hid (FA.out hw)
        have HE := Lib.hid (fun wr' ho => HLA.out wr' F.out.2.2 ho)
        clear FA FB
        go_wp2_with fail
        obtain ⟨c0, c1', c2, c3, c4, c5, c6⟩ := HLt.out
        have hf1 := HF1.out
        have hf2 := HF2.out
        have hf4 := HF4.out
        have r1 := R1.out
        have r2 := R2.out
        have r4 := R4.out
        have r5 := R5.out
        go_quiet ((go_at_call 65; first | exact quiet_any (l00Min_any _ _ _) | exact quiet_add_left (l00Min_any _ _ _)))
        clear r1 r2 r4
        go_wp2_with fail
        clear r5
        go_ret2
        have ho' : OwnL ((wr.setCell ⟨g, k * 7 + 1, none⟩ (.int .i64 (x.ice + G))).setCell ⟨g, k * 7 + 2, none⟩ (.int .i64 (x.water - G))) g 45 (ms.set k (coolX x jj)) := by rw [F.out.1, HY.out]; exact (HS.out.setk hkm 1 (by omega) _).setk hkm 2 (by omega) _
        have HL := HE.out _ ho'
        exact HeatR.ends hBg hb1 (by first | exact only_drewN (only_set (only_set HG.out _ _) _ _) _ | exact only_drew (only_set (only_set HG.out _ _) _ _)) HL.2 (HL.1.trans F.out.2.1).symm rfl hcap
      · have F := Lib.hid (FB.out hw)
        clear FA FB
        have HW := Lib.hid hw
        by_cases hd : -4000 < x.deg - D
        · have HE := Lib.hid (fun wr' ho => HLA.out wr' (F.out.2.2.trans (decide_eq_false (by omega))) ho)
          go_wp2_with fail
          obtain ⟨c0, c1', c2, c3, c4, c5, c6⟩ := HLt.out
          have hf1 := HF1.out
          have hf2 := HF2.out
          have hf4 := HF4.out
          have r1 := R1.out
          have r2 := R2.out
          have r4 := R4.out
          have r5 := R5.out
          go_quiet ((go_at_call 65; first | exact quiet_any (l00Min_any _ _ _) | exact quiet_add_left (l00Min_any _ _ _)))
          clear r1 r2 r4
          go_wp2_with fail
          clear r5
          have s1 := S1.out
          have s2 := S2.out
          have s3 := S3.out
          have s4 := S4.out
          have s5 := S5.out
          have s6 := S6.out
          have s7 := S7.out
          have z1 := Z1.out
          go_quiet ((go_at_call 65; first | exact quiet_any (l00Min_any _ _ _) | exact quiet_add_left (l00Min_any _ _ _)))
          clear s1 s2 s3 s4 s5 s6 z1
          have s8 := S8.out
          go_wp2_with (go_at_call 65; refine (l00Min_any _ _ _).mono ?_; rintro e w' ⟨rfl, rfl⟩)
          clear s7 s8
          go_ret2
          have ho' : OwnL (((wr.setCell ⟨g, k * 7 + 1, none⟩ (.int .i64 (x.ice + G))).setCell ⟨g, k * 7 + 2, none⟩ (.int .i64 (x.water - G))).setCell ⟨g, k * 7 + 4, none⟩ (.int .i64 (x.deg - D))) g 45 (ms.set k (coolX x jj)) := by rw [F.out.1, HY.out]; exact ((HS.out.setk hkm 1 (by omega) _).setk hkm 2 (by omega) _).setk hkm 4 (by omega) _
          have HL := HE.out _ ho'
          exact HeatR.ends hBg hb1 (by first | exact only_drewN (only_set (only_set (only_set HG.out _ _) _ _) _ _) _ | exact only_drewN (only_drewN (only_set (only_set (only_set HG.out _ _) _ _) _ _) _) _) HL.2 (HL.1.trans F.out.2.1).symm rfl hcap
        · have HE := Lib.hid (fun wr' hg ho => HNX.out wr' (F.out.2.2.trans (decide_eq_true (by omega))) hg ho)
          go_wp2_with fail
          obtain ⟨c0, c1', c2, c3, c4, c5, c6⟩ := HLt.out
          have hf1 := HF1.out
          have hf2 := HF2.out
          have hf4 := HF4.out
          have r1 := R1.out
          have r2 := R2.out
          have r4 := R4.out
          have r5 := R5.out
          go_quiet ((go_at_call 65; first | exact quiet_any (l00Min_any _ _ _) | exact quiet_add_left (l00Min_any _ _ _)))
          clear r1 r2 r4
          go_wp2_with fail
          clear r5
          have s1 := S1.out
          have s2 := S2.out
          have s3 := S3.out
          have s4 := S4.out
          have s5 := S5.out
          have s6 := S6.out
          have s7 := S7.out
          have z1 := Z1.out
          go_quiet ((go_at_call 65; first | exact quiet_any (l00Min_any _ _ _) | exact quiet_add_left (l00Min_any _ _ _)))
          clear s1 s2 s3 s4 s5 s6 z1
          have s8 := S8.out
          go_wp2_with (go_at_call 65; refine (l00Min_any _ _ _).mono ?_; rintro e w' ⟨rfl, rfl⟩)
          clear s7 s8
          go_roundw
          case rel =>
            have ho' : OwnL (((wr.setCell ⟨g, k * 7 + 1, none⟩ (.int .i64 (x.ice + G))).setCell ⟨g, k * 7 + 2, none⟩ (.int .i64 (x.water - G))).setCell ⟨g, k * 7 + 4, none⟩ (.int .i64 (x.deg - D))) g 45 (ms.set k (coolX x jj)) := by rw [F.out.1, HY.out]; exact ((HS.out.setk hkm 1 (by omega) _).setk hkm 2 (by omega) _).setk hkm 4 (by omega) _
            have HN := HE.out _ (only_set (only_set (only_set HG.out _ _) _ _) _ _) ho'
            have ej : coolF.J x jj = jj - G * 334 - M := F.out.2.1
            rw [ej] at HN
            first | exact HN.drewN _ | exact (HN.drewN _).drewN _ | exact (HN.drewN _).drewN 1
          case measure => (simp [intOf]; try omega)
end Go.Proofs.Ytnlikinckmoomaa
