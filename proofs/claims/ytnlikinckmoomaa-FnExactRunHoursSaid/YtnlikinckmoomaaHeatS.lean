/- Heat from the top of a profile: the reference's loop, with warming. -/
import Derived.Test.YtnlikinckmoomaaHeatT
import Derived.Test.YtnlikinckmoomaaGrad
import Derived.Deep.RegionWith
namespace Go.Proofs.Ytnlikinckmoomaa
open Go.ChangeShapes Go.WideShapes Go.ChangeAt Go.RowKit Go.Joins Go.Deep
set_option linter.unusedVariables false
theorem HeatR.ends {f : HeatF} {j : Int} {w1 w wr : World} {g : Nat} {ls : List Ly} {c : Nat} {u : Value} {q : Int} (hBg : w.heap.size ≤ g) (hb : Below w.heap.size w w1) (hg : w1.grownBy wr (some g)) (ho : OwnL wr g 45 (heatA f j ls).l) (hq : q = (heatA f j ls).j) (hu : u = .slice (some ⟨g, 0, none⟩) ls.length c) (hcap : ls.length ≤ c) :
    ∃ v, Ending.returned (.tuple #[u, .int .i64 q]) = .returned (.tuple #[v, .int .i64 (heatA f j ls).j]) ∧ (∃ A c, v = .slice A (heatA f j ls).l.length c ∧ (heatA f j ls).l.length ≤ c ∧ OwnO wr w.heap.size A (heatA f j ls).l) ∧ Below w.heap.size w wr :=
  ⟨u, by rw [hq], ⟨_, c, by rw [heatA_len]; exact hu, by rw [heatA_len]; exact hcap, .inr ⟨g, rfl, hBg, ho⟩⟩, hb.grown hg hb.size (fun k hk => by injection hk with hk; omega)⟩
theorem HeatR.drewN {f : HeatF} {j : Int} {w wr : World} {g : Nat} {ls : List Ly} {q i : Value} (h : HeatR f j w g ls q i wr) (n : Nat) : HeatR f j w g ls q i (wr.drewN n) := by
  obtain ⟨m, a, b, c, d, e, ho, hg⟩ := h
  exact ⟨m, a, b, c, d, e, ho, only_drewN hg n⟩
theorem quiet_any {P : Program} {f : FuncId} {args : Array Value} {w : World} {n : Nat} {v : Value}
    (h : Calls P f args (w.drewN n) fun e w' => e = .returned v ∧ w.drewN n = w') : Calls P f args (w.drewN n) fun e w'' => e = .returned v ∧ ∃ m, w'' = w.drewN m :=
  h.mono fun _ _ ⟨he, hm⟩ => ⟨he, n, hm.symm⟩
theorem OwnL.drw {w : World} {g : Nat} {t : TypeId} {ls : List Ly} (h : OwnL w g t ls) (n : Nat) : OwnL (w.drewN n) g t ls := h
set_option maxRecDepth 100000 in
set_option maxHeartbeats 4000000 in
theorem l05Warm_any (A : Option Addr) (c : Nat) (ls : List Ly) (j : Int) (w : World) (hr : RdL w A ls) (V : VL ls) (h0 : 0 ≤ j) (h1 : j ≤ 100000000) :
    Calls Try.prog 55 #[.slice A ls.length c, .int .i64 j] w (GivesLV w (heatA warmF j ls).l (heatA warmF j ls).j) := by
  have h16 := V.len
  go_enter Try.func55, Try.ntmps55
  go_wp2_with fail
  refine (l05Own_any A c ls w hr (by omega)).mono ?_
  rintro e w1 ⟨v1, rfl, hs1, hb1⟩
  obtain ⟨A1, c1, rfl, ho1⟩ := hs1.out
  have hcap := hs1.cap
  clear hs1
  rcases ho1 with rfl | ⟨g, rfl, hBg, ho1⟩
  · go_wp2_with fail
    go_loop [1, 7] (fun q i => q = .int .i64 j ∧ i = .int .i64 (-1)) (fun _ _ => 0)
    case atStart => exact ⟨rfl, rfl⟩
    case round =>
      obtain ⟨rfl, rfl⟩ := hrel
      go_wp2_with fail
      go_ret2
      exact ⟨_, rfl, ⟨A1, c1, rfl, Nat.zero_le _, .inl rfl⟩, hb1⟩
  have hD := HeatR.start (f := warmF) (j := j) ho1
  go_wp2_with fail
  go_loopw [1, 7] (HeatR warmF j w1 g ls) (fun _ i _ => (intOf i + 1).toNat)
  case atStart => exact hD
  case round =>
    obtain ⟨n, rfl, n0, n1, hgo, rfl, ho, hg⟩ := hrel
    clear hD ho1
    by_cases hneg : n < 0
    · obtain rfl : n = -1 := by omega
      go_wp2_with fail
      go_ret2
      have e : ((-1 : Int) + 1).toNat = 0 := rfl
      rw [e] at ho
      exact HeatR.ends hBg hb1 hg (by simpa using ho) (by rw [e]; rfl) rfl hcap
    · obtain ⟨k, rfl⟩ := Int.eq_ofNat_of_zero_le (show 0 ≤ n by omega)
      have hk : k < ls.length := by omega
      have e : ((k : Int) + 1).toNat = k + 1 := by omega
      rw [e] at ho hgo ⊢
      have hB := V.get k hk
      obtain ⟨q0, q1⟩ := heat_drop V warmF warm_hb h0 h1 (k + 1)
      have hat := cur_at ls (heatA warmF j (ls.drop (k + 1))).l k hk
      have HNX := Lib.hid (fun wr' hb hg ho => HeatR.next (f := warmF) (j := j) (w := w1) (wr' := wr') (g := g) hk hgo hb hg ho)
      have HLA := Lib.hid (fun wr' hb ho => heat_last (f := warmF) (j := j) (w := w1) (wr' := wr') (g := g) hk hgo hb ho)
      have HG := Lib.hid hg
      clear hg hgo e
      generalize (heatA warmF j (ls.drop (k + 1))).j = jj at *
      generalize ls.take (k + 1) ++ (heatA warmF j (ls.drop (k + 1))).l = ms at *
      generalize ls[k] = x at *
      have hkm : k < ms.length := (List.getElem?_eq_some_iff.1 hat).1
      have hl := ho.at_ hat
      have HS := Lib.hid (ho.set0 hat)
      have hf1 := ho.frozen (k * 7 + 1)
      have hf2 := ho.frozen (k * 7 + 2)
      have hf4 := ho.frozen (k * 7 + 4)
      have HF1 := Lib.hid hf1
      have HF2 := Lib.hid hf2
      have HF4 := Lib.hid hf4
      have HLt := Lib.hid hl
      clear ho hat hf1 hf2 hf4
      obtain ⟨i0, i1⟩ : 1 ≤ x.ice ∧ x.ice ≤ 1000000 := ⟨hB.i0, hB.i1⟩
      obtain ⟨v0, v1⟩ : 0 ≤ x.water ∧ x.water ≤ 1000000 := ⟨hB.w0, hB.w1⟩
      obtain ⟨d0, d1⟩ : -4000 ≤ x.deg ∧ x.deg ≤ 0 := ⟨hB.g0, hB.g1⟩
      obtain ⟨t0, t1⟩ := coldF_bd hB
      by_cases hlt : jj < coldF x
      · have F := Lib.hid (warm_lt hlt)
        have HE := Lib.hid (fun wr' ho => HLA.out wr' F.out.2.2 ho)
        obtain ⟨y0, y1⟩ := quoF_bd hB q0 q1
        have R1 : Hid (IntKind.i64.wrap (jj * 1000) = jj * 1000) := by show _ = _; rw [IntKind.wrap_i64]; omega
        have R2 : Hid (IntKind.i64.wrap (21 * x.ice) = 21 * x.ice) := by show _ = _; rw [IntKind.wrap_i64]; omega
        have R3 : Hid ((jj * 1000).tdiv (21 * x.ice) = quoF x jj) := Lib.hid (Int.tdiv_eq_ediv_of_nonneg (by omega))
        have HCd : Hid (∀ W : World, LyAt W g (k * 7) x → Calls Try.prog 75 #[.pointer (some ⟨g, k * 7, none⟩)] W fun e w' => e = .returned (.int .i64 (coldF x)) ∧ ∃ n, w' = W.drewN n) := Lib.hid fun W h => l03Cold_any x g (k * 7) W hB h
        generalize quoF x jj = q at *
        generalize coldF x = cd at *
        have R4 : Hid (IntKind.i64.wrap q = q) := by show _ = _; rw [IntKind.wrap_i64]; omega
        have R5 : Hid (IntKind.i64.wrap (x.deg + q) = x.deg + q) := by show _ = _; rw [IntKind.wrap_i64]; omega
        have Z1 : Hid (¬ 21 * x.ice = 0) := Lib.hid (by omega)
        go_wp2_with fail
        refine (HCd.out _ HLt.out).mono ?_
        rintro e w2 ⟨rfl, n1, rfl⟩
        go_wp2_with fail
        obtain ⟨c0, c1', c2, c3, c4, c5, c6⟩ := HLt.out
        have hf4 := HF4.out
        have r1 := R1.out
        have r2 := R2.out
        have r3 := R3.out
        have r4 := R4.out
        have r5 := R5.out
        have z1 := Z1.out
        go_region_with ((go_at_call 65; refine (l00Min_any _ _ _).mono ?_; rintro e w' ⟨rfl, rfl⟩))
        all_goals
          clear r1 r2 r3 r4 r5 z1
          go_wp2_with fail
          go_ret2
          have ho' : OwnL (wr.setCell ⟨g, k * 7 + 4, none⟩ (.int .i64 (minI 0 (x.deg + q)))) g 45 (ms.set k (warmX x jj)) := by rw [F.out.1]; exact HS.out.setk hkm 4 (by omega) _
          have HL := HE.out _ ho'
          exact HeatR.ends hBg hb1 (by first | exact only_drew (only_drewN (only_set HG.out _ _) _) | exact only_drewN (only_set HG.out _ _) _ | exact only_drew (only_set HG.out _ _)) HL.2 (HL.1.trans F.out.2.1).symm rfl hcap
      · have F := Lib.hid (warm_ge hlt)
        obtain ⟨x0, x1, x2, x3⟩ := warmG_bd (j := jj - coldF x) hB (by omega) (by omega)
        have hG : warmG x (jj - coldF x) = minI ((jj - coldF x) / 334) (minI (x.ice - 1) (1000000 - x.water)) := rfl
        have HCd : Hid (∀ W : World, LyAt W g (k * 7) x → Calls Try.prog 75 #[.pointer (some ⟨g, k * 7, none⟩)] W fun e w' => e = .returned (.int .i64 (coldF x)) ∧ ∃ n, w' = W.drewN n) := Lib.hid fun W h => l03Cold_any x g (k * 7) W hB h
        generalize warmG x (jj - coldF x) = G at *
        generalize coldF x = cd at *
        have R1 : Hid ((jj - cd).tdiv 334 = (jj - cd) / 334) := Lib.hid (Int.tdiv_eq_ediv_of_nonneg (by omega))
        have R2 : Hid (IntKind.i64.wrap ((jj - cd) / 334) = (jj - cd) / 334) := by show _ = _; rw [IntKind.wrap_i64]; omega
        have R3 : Hid (IntKind.i64.wrap (x.ice - 1) = x.ice - 1) := by show _ = _; rw [IntKind.wrap_i64]; omega
        have R4 : Hid (IntKind.i64.wrap (1000000 - x.water) = 1000000 - x.water) := by show _ = _; rw [IntKind.wrap_i64]; omega
        have R5 : Hid (minI ((jj - cd) / 334) (minI (x.ice - 1) (1000000 - x.water)) = G) := Lib.hid hG.symm
        have hst : ∀ wr' : World, OwnL wr' g 45 (ms.set k (((x.put 4 0).put 1 (x.ice - G)).put 2 (x.water + G))) → OwnL wr' g 45 (ms.set k (warmF.X x jj)) := fun wr' h => by
          show OwnL wr' g _ (ms.set k (warmX x jj))
          rw [F.out.1]
          exact h
        have HST := Lib.hid hst
        clear hG hst
        by_cases hgo : jj - cd - G * 334 < 334
        · have HE := Lib.hid (fun wr' ho => HLA.out wr' (F.out.2.2.trans (decide_eq_false (by omega))) (HST.out wr' ho))
          go_wp2_with fail
          refine (HCd.out _ HLt.out).mono ?_
          rintro e w2 ⟨rfl, n1, rfl⟩
          obtain ⟨c0, c1', c2, c3, c4, c5, c6⟩ := HLt.out
          have hf1 := HF1.out
          have hf2 := HF2.out
          have hf4 := HF4.out
          go_wp2_with fail
          have r1 := R1.out
          have r2 := R2.out
          have r3 := R3.out
          have r4 := R4.out
          have r5 := R5.out
          go_quiet ((go_at_call 65; first | exact quiet_any (l00Min_any _ _ _) | exact quiet_add_left (l00Min_any _ _ _)))
          clear r1 r2 r3 r4
          go_wp2_with fail
          clear r5
          go_ret2
          have HL := HE.out _ (((HS.out.setk hkm 4 (by omega) 0).setk hkm 1 (by omega) (x.ice - G)).setk hkm 2 (by omega) (x.water + G))
          exact HeatR.ends hBg hb1 (by first | exact only_drewN (only_set (only_set (only_set HG.out _ _) _ _) _ _) _ | exact only_drewN (only_drewN (only_set (only_set (only_set HG.out _ _) _ _) _ _) _) _) HL.2 (HL.1.trans F.out.2.1).symm rfl hcap
        · have HE := Lib.hid (fun wr' hg ho => HNX.out wr' (F.out.2.2.trans (decide_eq_true (by omega))) hg (HST.out wr' ho))
          go_wp2_with fail
          refine (HCd.out _ HLt.out).mono ?_
          rintro e w2 ⟨rfl, n1, rfl⟩
          obtain ⟨c0, c1', c2, c3, c4, c5, c6⟩ := HLt.out
          have hf1 := HF1.out
          have hf2 := HF2.out
          have hf4 := HF4.out
          go_wp2_with fail
          have r1 := R1.out
          have r2 := R2.out
          have r3 := R3.out
          have r4 := R4.out
          have r5 := R5.out
          go_quiet ((go_at_call 65; first | exact quiet_any (l00Min_any _ _ _) | exact quiet_add_left (l00Min_any _ _ _)))
          clear r1 r2 r3 r4
          go_wp2_with fail
          clear r5
          go_roundw
          case rel =>
            have HN := HE.out _ (only_set (only_set (only_set HG.out _ _) _ _) _ _) (((HS.out.setk hkm 4 (by omega) 0).setk hkm 1 (by omega) (x.ice - G)).setk hkm 2 (by omega) (x.water + G))
            have ej : warmF.J x jj = jj - cd - G * 334 := F.out.2.1
            rw [ej] at HN
            first | exact HN.drewN _ | exact (HN.drewN _).drewN _ | exact (HN.drewN _).drewN 1
          case measure => (simp [intOf]; try omega)
end Go.Proofs.Ytnlikinckmoomaa
