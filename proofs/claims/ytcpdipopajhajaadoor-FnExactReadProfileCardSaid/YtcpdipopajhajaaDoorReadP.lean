/- A profile read from its text: the contracts of the program's and of the reference's ReadProfile (the program's in a world in which the library's tables and sentinels read as their initialisers lay them). -/
import Derived.Test.YtcpdipopajhajaaDoorRdpP
import Derived.Test.YtcpdipopajhajaaDoorReadL
import Derived.Test.YtcpdipopajhajaaDoorProfT
import Derived.Test.YtcpdipopajhajaaDoorMark
import Derived.StillTailTactics
import Derived.Deep.RegionHeld3
namespace Go.Proofs.YtcpdipopajhajaaDoor
open Go.ChangeShapes Go.WideShapes Go.ChangeAt Go.RowKit Go.Deep
set_option linter.unusedVariables false
/-- A list of layers of its own is returned, and whether there is one. -/
def GivesLB (w : World) (l : List Ly) (b : Bool) (e : Ending) (w' : World) : Prop := ∃ v, e = .returned (.tuple #[v, .bool b]) ∧ OwnS w' w.heap.size v l ∧ Below w.heap.size w w'
theorem GivesLB.no {w w' : World} {l : List Ly} {b : Bool} (h : b = false ∧ l = []) (hb : Below w.heap.size w w') : GivesLB w l b (.returned (.tuple #[.slice none 0 0, .bool false])) w' := by
  obtain ⟨rfl, rfl⟩ := h
  exact ⟨_, rfl, OwnS.nil _ _, hb⟩
/-- The seven numbers of a layer's text lie in a row. -/
theorem row_ly {w : World} {B : Nat} {A : Option Addr} {t : ByteArray} (h : OwnIO w B A (rdV t)) (h7 : (rdV t).length = 7) : ∃ g, A = some ⟨g, 0, none⟩ ∧ B ≤ g ∧ LyAt w g 0 (lyP t) := by
  rcases h with h | ⟨g, rfl, hB, ho⟩
  · rw [h] at h7; simp at h7
  · refine ⟨g, rfl, hB, ?_⟩
    have hc : ∀ k, k < 7 → w.cell? ⟨g, 0 + k, none⟩ = some (.int .i64 ((rdV t).getD k 0)) := fun k hk => by
      rw [Nat.zero_add]
      refine ho.at_ ?_
      rw [List.getD_eq_getElem?_getD, List.getElem?_eq_getElem (by omega)]
      rfl
    exact ⟨hc 0 (by omega), hc 1 (by omega), hc 2 (by omega), hc 3 (by omega), hc 4 (by omega), hc 5 (by omega), hc 6 (by omega)⟩
def SevenY (w : World) (t : ByteArray) (e : Ending) (w' : World) : Prop := ∃ g c, e = .returned (.tuple #[.slice (some ⟨g, 0, none⟩) 7 c, .bool true]) ∧ 7 ≤ c ∧ w.heap.size ≤ g ∧ LyAt w' g 0 (lyP t) ∧ Below w.heap.size w w'
theorem GivesNB.seven {w w' : World} {t : ByteArray} {e : Ending} (h : GivesNB w (rdV t) (rdOk t) e w') (ht : sP t = true) : SevenY w t e w' := by
  obtain ⟨A, c, rfl, hc, ho, hb⟩ := h
  obtain ⟨h1, h7⟩ := sP_yes ht
  obtain ⟨g, rfl, hg, hl⟩ := row_ly ho h7
  rw [h7] at hc
  exact ⟨g, c, by rw [h7, h1], hc, hg, hl, hb⟩
/-- No layer's text: there is no list, or it is not of seven. -/
def SevenN (w : World) (e : Ending) (w' : World) : Prop := ∃ A n c b, e = .returned (.tuple #[.slice A n c, .bool b]) ∧ n ≤ 64 ∧ (b = false ∨ (b = true ∧ ((n : Int) != 7) = true)) ∧ Below w.heap.size w w'
theorem GivesNB.none7 {w w' : World} {t : ByteArray} {e : Ending} (h : GivesNB w (rdV t) (rdOk t) e w') (ht : sP t = false) : SevenN w e w' := by
  obtain ⟨A, c, rfl, hc, ho, hb⟩ := h
  refine ⟨A, _, c, _, rfl, rdV_le t, ?_, hb⟩
  rcases hb : rdOk t with _ | _
  · exact .inl rfl
  · refine .inr ⟨rfl, ?_⟩
    rcases sP_no ht with h | h
    · rw [hb] at h; cases h
    · rw [bne_iff_ne]; omega
theorem readNum_t (t : ByteArray) (w : World) (hs : t.size ≤ 1048576) (hL : LibOk w) (ht : sP t = true) : Calls Tryd.prog 50 #[.string t, .int .i64 7] w (SevenY w t) := by
  have HC := Lib.hid ((implRdL_any t w hs hL).mono fun e w' h => h.seven ht)
  clear hL ht
  go_enter Tryd.func50, Tryd.ntmps50
  go_wp2_with fail
  refine HC.out.mono ?_
  rintro e w1 ⟨g, c, rfl, hc, hg, hl, hb⟩
  have HL := Lib.hid hl
  clear hl
  go_wp2_with fail
  go_ret2
  exact ⟨g, c, rfl, hc, hg, HL.out, hb⟩
theorem readNum_f (t : ByteArray) (w : World) (hs : t.size ≤ 1048576) (hL : LibOk w) (ht : sP t = false) : Calls Tryd.prog 50 #[.string t, .int .i64 7] w fun e w' => (∃ A c, e = .returned (.tuple #[.slice A 7 c, .bool false])) ∧ Below w.heap.size w w' := by
  have HC := Lib.hid ((implRdL_any t w hs hL).mono fun e w' h => h.none7 ht)
  have hmk : ∀ W : World, (Instr.makeSlice 22 (.int .i64 7) (.int .i64 7)).run Tryd.prog W = .ok (.slice (some ⟨W.heap.size, 0, none⟩) 7 7) (W.alloc (.cells (madeCells #[.int .i64 0] 7) 2)) := fun W => run_mk_int 7 (by omega) W
  clear hL ht
  go_enter Tryd.func50, Tryd.ntmps50
  go_wp2_with fail
  refine HC.out.mono ?_
  rintro e w1 ⟨A, n, c, b, rfl, hn, hb, hbl⟩
  rcases hb with rfl | ⟨rfl, hb⟩
  · go_wp2_with fail
    go_ret2
    exact ⟨⟨_, _, rfl⟩, bl_alloc hbl _⟩
  · go_wp2_with fail
    go_ret2
    exact ⟨⟨_, _, rfl⟩, bl_alloc hbl _⟩
/-- The block that an append writes is not the one that A lies in. -/
def Apart (A : Option Addr) (v : Value) : Prop := ∀ g o, A = some ⟨g, o, none⟩ → v.ownBlock ≠ some g
theorem RdT.grown {w w' : World} {A : Option Addr} {l : List ByteArray} {v : Value} (h : RdT w A l) (hg : w.grownBy w' v.ownBlock) (ha : Apart A v) : RdT w' A l := fun k x hx => by
  obtain ⟨g, o, rfl, hl⟩ := h k x hx
  exact ⟨g, o, rfl, (World.cell?_of_block (a := ⟨g, _, none⟩) (hg.block g (World.block_lt_of_cell? w _ hl) (fun e => ha g o rfl e.symm))).trans hl⟩
theorem Apart.next {w : World} {A : Option Addr} {l : List ByteArray} {v v' : Value} (h : Apart A v) (hr : RdT w A l) (h0 : 0 < l.length) (hv : v'.ownBlock = v.ownBlock ∨ v'.ownBlock = some w.heap.size) : Apart A v' := fun g o hA e => by
  rcases hv with hv | hv
  · exact h g o hA (hv ▸ e)
  · obtain ⟨g', o', hA', hl⟩ := hr.at_ 0 h0
    rw [hA] at hA'
    injection hA' with hA'
    injection hA' with hg _
    have := World.block_lt_of_cell? w _ hl
    rw [hv] at e
    injection e with e
    simp only at this
    omega
theorem step_appL2 {ops : Array Oper} {o : Oper} {a : Act} {w : World} {K : Act → World → Prop} {Q : Exit → Act → World → Prop} {E : Prop} (hgd : o.guard = none) (s x : Operand)
    (ho : o.op = .call { callee := .builtin .append, args := #[s, x], argTypes := #[39, 39] })
    (B : Nat) (v : Value) (ls ms : List Ly) (a0 : Addr) (c : Nat) (hs : a.eval s = v) (hx : a.eval x = .slice (some a0) ms.length c) (hown : OwnS w B v ls) (hr : RdL w (some a0) ms) (hn : ls.length + ms.length ≤ 3000000) (hB : B ≤ w.heap.size)
    (h : ∀ v' w', OwnS w' B v' (ls ++ ms) → Below B w w' → w.grownBy w' v.ownBlock → (v'.ownBlock = v.ownBlock ∨ v'.ownBlock = some w.heap.size) → K (a.put o.dst v') w') :
    if Region.wanted o (yielded ops a.tmps) = true then Oper.wp Tryd.prog o a w K Q else E := by
  have hw : Region.wanted o (yielded ops a.tmps) = true := by simp [Region.wanted, hgd]
  rw [if_pos hw]
  obtain ⟨i, hi, hz, hs', hb⟩ := info_parts info_ly
  obtain ⟨v', w', h1, h2, h3, _, h4⟩ := run_append_own_at (P := Tryd.prog) w B 39 o.type 64 i _ 7 56 Tryd.underlying39 hi hz hs' hb (by rfl) (by omega) v ls.length (flat ls) hown a0 ms.length c (flat ms) (flat_len ms) hr.cells (flat_one ms) (by simp only [maxLen]; omega) (by omega) hB
  have h5 : OwnS w' B v' (ls ++ ms) := by
    unfold OwnS
    rw [List.length_append, flat_app]
    exact h2
  unfold Oper.wp execOp
  simp only [ho, resolve, invoke, builtin, Sem.run_bind, Sem.run_pure, Result.andThen_ok, List.map_toArray, List.map_cons, List.map_nil, hs, hx, h1]
  exact h v' w' h5 (grown_below hown h3 hB) h3 h4
theorem OwnS.apart {w : World} {B g : Nat} {v : Value} {ls : List Ly} (h : OwnS w B v ls) (hg : w.heap.size ≤ g) : some g ≠ v.ownBlock := fun e => by
  have := World.ownsRow.lt h g e.symm
  omega
theorem OwnS.form {w : World} {B : Nat} {v : Value} {ls : List Ly} (h : OwnS w B v ls) : ∃ A c, v = .slice A ls.length c ∧ ls.length ≤ c := by
  obtain ⟨A, c, rfl, _⟩ := h.out
  exact ⟨A, c, rfl, h.cap⟩
theorem OwnS.rd {w : World} {B n c : Nat} {A : Option Addr} {ls : List Ly} (h : OwnS w B (.slice A n c) ls) : RdL w A ls := by
  obtain ⟨A', c', e, ho⟩ := h.out
  injection e with e _ _
  rw [e]
  exact ho.rd
theorem OwnS.alloc {w : World} {B : Nat} {v : Value} {ls : List Ly} (h : OwnS w B v ls) (o : Obj) : OwnS (w.alloc o) B v ls := World.ownsRow.alloc h o
set_option maxRecDepth 20000 in
set_option maxHeartbeats 4000000 in
theorem l03Read_any (s : ByteArray) (w : World) (hs : s.size ≤ 1048576) : Calls Tryd.prog 49 #[.string s] w (GivesLB w (rpV s) (rpOk s)) := by
  by_cases hd : s = ⟨#[45]⟩
  · have F := Lib.hid (rp_dash hd)
    have hq := dash_t hd
    have HO := Lib.hid (OwnS.made0 w w.heap.size (Nat.le_refl _))
    clear hd
    go_enter Tryd.func49, Tryd.ntmps49
    go_wp2_with fail
    go_ret2
    rw [F.out.1, F.out.2]
    exact ⟨_, rfl, HO.out, bl_alloc (Below.refl _ _) _⟩
  have hq := dash_f hd
  have hpl := pieces_len s 59
  have HO0 := Lib.hid (OwnS.made0 w w.heap.size (Nat.le_refl _))
  have HBA := Lib.hid (bl_alloc (Below.refl w.heap.size w) (.cells #[] 64))
  obtain ⟨ps, hps⟩ : ∃ ps, ps = pieces s 59 := ⟨_, rfl⟩
  have HB' : Hid (∀ (k : Nat) (hk : k < ps.length), sP ps[k] = false → rpOk s = false ∧ rpV s = []) := by subst hps; exact Lib.hid fun k hk hb => rp_bad hd k hk hb
  have HN' : Hid (okL (ps.map lyP) = false → rpOk s = false ∧ rpV s = []) := by subst hps; exact Lib.hid fun a => rp_nok hd a
  have HA' : Hid (ps.all sP = true → okL (ps.map lyP) = true → rpOk s = true ∧ rpV s = ps.map lyP) := by subst hps; exact Lib.hid fun a k => rp_all hd a k
  have HH' : Hid (ps.all sP = true → 2 * ps.length ≤ s.size + 1) := by subst hps; exact Lib.hid fun a => pieces_half a
  have HSZ' : Hid (∀ x ∈ ps, x.size ≤ 1048576) := by subst hps; exact Lib.hid fun x hx => Nat.le_trans (pieces_size hx) hs
  rw [← hps] at hpl
  have HPS := Lib.hid hps
  clear hps hd
  go_enter Tryd.func49, Tryd.ntmps49
  go_wp2_with fail
  refine (l01SplitC_any s 59 _ hs).mono ?_
  rintro e w1 ⟨A, c, rfl, hlc, ho1, hb1⟩
  rw [← HPS.out] at ho1 hlc ⊢
  have hp0 : 0 < ps.length := by rw [HPS.out, pieces_count]; omega
  have HAP : Hid (Apart A (.slice (some ⟨w.heap.size, 0, none⟩) 0 0)) := Lib.hid fun g o hA e => by
    obtain ⟨g', hA', _, hB, _⟩ := ho1.at_ hp0
    rw [hA] at hA'
    injection hA' with hA'
    injection hA' with hg _
    have e2 : w.heap.size = g := Option.some.inj e
    simp at hB
    omega
  have HRD := Lib.hid ho1.rd
  have HO1 := Lib.hid (HO0.out.below hb1)
  have HBW := Lib.hid (bl_trans HBA.out hb1)
  clear ho1 HO0 HBA hb1
  go_wp2_with fail
  go_loopw [4, 6] (fun o i wr => ∃ (k n : Nat) (out : List Ly) (A1 : Option Addr) (c1 : Nat), i = .int .i64 k ∧ k ≤ ps.length ∧ o = .slice A1 n c1 ∧ n ≤ c1 ∧ n ≤ k ∧ Hid (out = lysP ps k) ∧ Hid (n = out.length) ∧ Hid (OwnS wr w.heap.size (.slice A1 n c1) out) ∧ Hid (Apart A (.slice A1 n c1)) ∧ Hid (RdT wr A ps) ∧ Hid ((ps.take k).all sP = true) ∧ Hid (Below w.heap.size w wr)) (fun _ i _ => ps.length - (intOf i).toNat)
  case atStart => exact ⟨0, 0, [], _, _, rfl, Nat.zero_le _, rfl, Nat.le_refl _, Nat.le_refl _, Lib.hid rfl, Lib.hid rfl, HO1, HAP, HRD, by show _ = _; simp, HBW⟩
  case round =>
    obtain ⟨k, n, out, A1, c1, rfl, hk, rfl, hnc, hnk, HK, HN, HO, HA, HR, HL, HB⟩ := hrel
    by_cases hlt : k < ps.length
    · have hps := HSZ'.out _ (List.getElem_mem hlt)
      have HC := Lib.hid (specRdL_any ps[k] wr hps)
      obtain ⟨g, o, hA, hx⟩ := HR.out.at_ k hlt
      rcases hn : sP ps[k] with _ | _
      · have F := Lib.hid (HB'.out k hlt hn)
        have HC2 := Lib.hid (HC.out.mono fun e w' h => h.none7 hn)
        subst hA
        clear hn HC
        go_wp2_with fail
        refine HC2.out.mono ?_
        rintro e w2 ⟨A2, n2, c2, b2, rfl, hn2, hb2, hbl⟩
        rcases hb2 with rfl | ⟨rfl, hb2⟩
        · go_wp2_with fail
          go_ret2
          exact GivesLB.no F.out (bl_trans HB.out hbl)
        · go_wp2_with fail
          go_ret2
          exact GivesLB.no F.out (bl_trans HB.out hbl)
      · have HL2 := Lib.hid (allP_snoc sP ps k hlt HL.out hn)
        have HC2 := Lib.hid (HC.out.mono fun e w' h => h.seven hn)
        have HX := Lib.hid (lysP_s hlt)
        subst hA
        clear hn HC
        go_wp2_with fail
        refine HC2.out.mono ?_
        rintro e w2 ⟨g2, c2, rfl, hc2, hg2, hl2, hbl⟩
        have HB2 := Lib.hid (bl_trans HB.out hbl)
        have HO2 := Lib.hid (HO.out.below hbl)
        have HR2 := Lib.hid (HR.out.below hbl)
        have hww := HB2.out.size
        have HNE := Lib.hid (HO.out.apart hg2)
        obtain ⟨x, hxe⟩ : ∃ x, x = lyP ps[k] := ⟨_, rfl⟩
        rw [← hxe] at hl2
        have HXE := Lib.hid hxe
        have HLY := Lib.hid hl2
        have q0 : ∀ w' : World, LyAt w' g2 0 x → w'.cell? ⟨g2, 0, none⟩ = some (.int .i64 x.form) := fun w' h => h.box.1
        have q1 : ∀ w' : World, LyAt w' g2 0 x → w'.cell? ⟨g2, 1, none⟩ = some (.int .i64 x.ice) := fun w' h => h.box.2.1
        have q2 : ∀ w' : World, LyAt w' g2 0 x → w'.cell? ⟨g2, 2, none⟩ = some (.int .i64 x.water) := fun w' h => h.box.2.2.1
        have q3 : ∀ w' : World, LyAt w' g2 0 x → w'.cell? ⟨g2, 3, none⟩ = some (.int .i64 x.dens) := fun w' h => h.box.2.2.2.1
        have q4 : ∀ w' : World, LyAt w' g2 0 x → w'.cell? ⟨g2, 4, none⟩ = some (.int .i64 x.deg) := fun w' h => h.box.2.2.2.2.1
        have q5 : ∀ w' : World, LyAt w' g2 0 x → w'.cell? ⟨g2, 5, none⟩ = some (.int .i64 x.hard) := fun w' h => h.box.2.2.2.2.2.1
        have q6 : ∀ w' : World, LyAt w' g2 0 x → w'.cell? ⟨g2, 6, none⟩ = some (.int .i64 x.age) := fun w' h => h.box.2.2.2.2.2.2
        clear hl2 hbl hx HO HR HB hxe
        go_wp2_with fail
        go_region_held3 (fun w' => LyAt w' g2 0 x) (first | (with_reducible assumption) | (with_reducible exact HLY.out.drew) | (with_reducible exact (HLY.out.alloc _).drew) | (with_reducible exact LyAt.alloc (by assumption) _))
          (first
            | (refine step_appL2 rfl (.tmp 36) (.tmp 59) rfl w.heap.size _ out [x] _ 1 (by simp [Act.eval]; rfl) (by simp [Act.eval]; rfl) ?_ ?_ ?_ ?_ ?_; (exact (HO2.out.alloc _).drew); (exact RdL.one (LyAt.new' _ _ x _ rfl).drew); (rw [← HN.out]; simp; omega); (simp; omega); intro v' w3 ho3 hb3 hg3 hv3; have HLY3 : LyAt w3 g2 0 x := LyAt.grown (by assumption) hg3 HNE.out))
        go_wp2_with fail
        have HB3 : Hid (Below w.heap.size w w3) := Lib.hid ((bl_alloc HB2.out _).drew.trans hb3)
        have HR2' := Lib.hid (HR2.out.below (bl_alloc (Below.refl w2.heap.size w2) (.cells #[.int .i64 x.form, .int .i64 x.ice, .int .i64 x.water, .int .i64 x.dens, .int .i64 x.deg, .int .i64 x.hard, .int .i64 x.age] 64)).drew)
        have HR3 : Hid (RdT w3 (some ⟨g, o, none⟩) ps) := Lib.hid (RdT.grown HR2'.out hg3 HA.out)
        have HA3 : Hid (Apart (some ⟨g, o, none⟩) v') := Lib.hid (HA.out.next HR2'.out hp0 hv3)
        rw [HXE.out] at ho3
        obtain ⟨A3, c3, rfl, hc3⟩ := ho3.form
        go_roundw
        case rel => exact ⟨k + 1, _, _, A3, c3, by go_num, hlt, rfl, hc3, by simp; have := HN.out; omega, Lib.hid (by rw [HX.out, ← HK.out]), Lib.hid rfl, Lib.hid ho3, HA3, HR3, HL2, HB3⟩
        case measure => simp [intOf]; omega
    · obtain rfl : k = ps.length := by omega
      have hall := allP_take sP ps HL.out
      have hhalf := HH'.out hall
      have hout : out = ps.map lyP := by rw [HK.out, lysP_all]
      have hn1 := HN.out
      have hol : out.length = ps.length := by rw [hout, List.length_map]
      subst hn1
      have HOK := Lib.hid (l03Ok_any A1 c1 out wr HO.out.rd (by omega))
      have HALL := Lib.hid hall
      have HOUT := Lib.hid hout
      clear hol hhalf hall hout
      rcases ho : okL out with _ | _
      · have F := Lib.hid (HN'.out (by rw [← HOUT.out]; exact ho))
        rw [ho] at HOK
        clear ho
        go_wp2_with fail
        refine HOK.out.mono ?_
        rintro e w' ⟨rfl, rfl⟩
        go_wp2_with fail
        go_ret2
        exact GivesLB.no F.out HB.out
      · have F := Lib.hid (HA'.out HALL.out (by rw [← HOUT.out]; exact ho))
        rw [ho] at HOK
        clear ho
        go_wp2_with fail
        refine HOK.out.mono ?_
        rintro e w' ⟨rfl, rfl⟩
        go_wp2_with fail
        go_ret2
        rw [F.out.1, F.out.2, ← HOUT.out]
        exact ⟨_, rfl, HO.out, HB.out⟩
theorem specRdP_any (s : ByteArray) (w : World) (hs : s.size ≤ 1048576) : Calls Tryd.prog 23 #[.string s] w (GivesLB w (rpV s) (rpOk s)) := by
  have HC := Lib.hid (l03Read_any s w hs)
  go_enter Tryd.func23, Tryd.ntmps23
  go_wp2_with fail
  refine HC.out.mono ?_
  rintro e w1 ⟨v, rfl, ho, hb⟩
  have HO := Lib.hid ho
  clear ho
  go_wp2_with fail
  go_ret2
  exact ⟨v, rfl, HO.out, hb⟩
set_option maxRecDepth 20000 in
set_option maxHeartbeats 4000000 in
theorem implRdP_any (s : ByteArray) (w : World) (hs : s.size ≤ 1048576) (hL : LibOk w) : Calls Tryd.prog 24 #[.string s] w (GivesLB w (rpV s) (rpOk s)) := by
  have HLB := Lib.hid hL
  clear hL
  by_cases hd : s = ⟨#[45]⟩
  · have F := Lib.hid (rp_dash hd)
    have hq := dash_t hd
    clear hd
    go_enter Tryd.func24, Tryd.ntmps24
    go_wp2_with fail
    go_ret2
    rw [F.out.1, F.out.2]
    exact ⟨_, rfl, OwnS.nil _ _, Below.refl _ _⟩
  have hq := dash_f hd
  have HSP := Lib.hid (splitN_any s 59 17 w hs HLB.out.max (by omega) (by omega))
  have hpn : (piecesN s 59 17).length ≤ 17 := piecesN_len s 59 (by omega)
  obtain ⟨ps, hps⟩ : ∃ ps, ps = piecesN s 59 17 := ⟨_, rfl⟩
  have HSZ : Hid (∀ x ∈ ps, x.size ≤ 1048576) := by subst hps; exact Lib.hid fun x hx => Nat.le_trans (piecesN_size hx) hs
  have HB' : Hid (∀ (k : Nat) (hk : k < ps.length), sP ps[k] = false → rpOk s = false ∧ rpV s = []) := by subst hps; exact Lib.hid fun k hk hb => rp_badN hd k hk hb
  have HE : Hid (ps.all sP = true → (profT (ps.map lyP) = s → rpOk s = true ∧ rpV s = ps.map lyP) ∧ (¬ profT (ps.map lyP) = s → rpOk s = false ∧ rpV s = [])) := by subst hps; exact Lib.hid fun ha => rp_end hd ha
  rw [← hps] at HSP hpn
  clear hps hd
  go_enter Tryd.func24, Tryd.ntmps24
  go_wp2_with fail
  refine HSP.out.mono ?_
  rintro e w1 ⟨A, c, rfl, hrd0, hb1⟩
  have HRD := Lib.hid hrd0
  clear hrd0 HSP
  have HO0 := Lib.hid (OwnS.nil w1 w1.heap.size)
  have HB0 := Lib.hid (Below.refl w1.heap.size w1)
  have HB1 := Lib.hid hb1
  have HL1 := Lib.hid (HLB.out.on hb1)
  clear hb1
  go_wp2_with fail
  go_loopw [4, 14] (fun o i wr => ∃ (k n : Nat) (out : List Ly) (A1 : Option Addr) (c1 : Nat), i = .int .i64 k ∧ k ≤ ps.length ∧ o = .slice A1 n c1 ∧ n ≤ c1 ∧ n ≤ k ∧ Hid (out = lysP ps k) ∧ Hid (n = out.length) ∧ Hid (OwnS wr w1.heap.size (.slice A1 n c1) out) ∧ Hid ((ps.take k).all sP = true) ∧ Hid (Below w1.heap.size w1 wr)) (fun _ i _ => ps.length - (intOf i).toNat)
  case atStart => exact ⟨0, 0, [], _, _, rfl, Nat.zero_le _, rfl, Nat.le_refl _, Nat.le_refl _, Lib.hid rfl, Lib.hid rfl, HO0, by show _ = _; simp, HB0⟩
  case round =>
    obtain ⟨k, n, out, A1, c1, rfl, hk, rfl, hnc, hnk, HK, HN, HO, HL, HB⟩ := hrel
    by_cases hlt : k < ps.length
    · have hps := HSZ.out _ (List.getElem_mem hlt)
      obtain ⟨g, o, hA, hx⟩ := (HRD.out.below HB.out).at_ k hlt
      rcases hn : sP ps[k] with _ | _
      · have F := Lib.hid (HB'.out k hlt hn)
        have HC := Lib.hid (readNum_f ps[k] wr hps (HL1.out.on HB.out) hn)
        subst hA
        clear hn
        go_wp2_with fail
        refine HC.out.mono ?_
        rintro e w2 ⟨⟨A2, c2, rfl⟩, hbl⟩
        go_wp2_with fail
        go_ret2
        exact GivesLB.no F.out (bl_trans HB1.out (bl_trans HB.out hbl))
      · have HL2 := Lib.hid (allP_snoc sP ps k hlt HL.out hn)
        have HC := Lib.hid (readNum_t ps[k] wr hps (HL1.out.on HB.out) hn)
        have HX := Lib.hid (lysP_s hlt)
        subst hA
        clear hn
        go_wp2_with fail
        refine HC.out.mono ?_
        rintro e w2 ⟨g2, c2, rfl, hc2, hg2, hl2, hbl⟩
        have HB2 := Lib.hid (bl_trans HB.out hbl)
        have HO2 := Lib.hid (HO.out.below hbl)
        have hww := HB2.out.size
        have HNE := Lib.hid (HO.out.apart hg2)
        obtain ⟨x, hxe⟩ : ∃ x, x = lyP ps[k] := ⟨_, rfl⟩
        rw [← hxe] at hl2
        have HXE := Lib.hid hxe
        have HLY := Lib.hid hl2
        have q0 : ∀ w' : World, LyAt w' g2 0 x → w'.cell? ⟨g2, 0, none⟩ = some (.int .i64 x.form) := fun w' h => h.box.1
        have q1 : ∀ w' : World, LyAt w' g2 0 x → w'.cell? ⟨g2, 1, none⟩ = some (.int .i64 x.ice) := fun w' h => h.box.2.1
        have q2 : ∀ w' : World, LyAt w' g2 0 x → w'.cell? ⟨g2, 2, none⟩ = some (.int .i64 x.water) := fun w' h => h.box.2.2.1
        have q3 : ∀ w' : World, LyAt w' g2 0 x → w'.cell? ⟨g2, 3, none⟩ = some (.int .i64 x.dens) := fun w' h => h.box.2.2.2.1
        have q4 : ∀ w' : World, LyAt w' g2 0 x → w'.cell? ⟨g2, 4, none⟩ = some (.int .i64 x.deg) := fun w' h => h.box.2.2.2.2.1
        have q5 : ∀ w' : World, LyAt w' g2 0 x → w'.cell? ⟨g2, 5, none⟩ = some (.int .i64 x.hard) := fun w' h => h.box.2.2.2.2.2.1
        have q6 : ∀ w' : World, LyAt w' g2 0 x → w'.cell? ⟨g2, 6, none⟩ = some (.int .i64 x.age) := fun w' h => h.box.2.2.2.2.2.2
        clear hl2 hbl hx HO HB hxe
        go_wp2_with fail
        go_region_held3 (fun w' => LyAt w' g2 0 x) (first | (with_reducible assumption) | (with_reducible exact HLY.out.drew) | (with_reducible exact (HLY.out.alloc _).drew) | (with_reducible exact LyAt.alloc (by assumption) _))
          (first
            | (refine step_appL2 rfl (.tmp 25) (.tmp 48) rfl w1.heap.size _ out [x] _ 1 (by simp [Act.eval]; rfl) (by simp [Act.eval]; rfl) ?_ ?_ ?_ ?_ ?_; (exact (HO2.out.alloc _).drew); (exact RdL.one (LyAt.new' _ _ x _ rfl).drew); (rw [← HN.out]; simp; omega); (simp; omega); intro v' w3 ho3 hb3 hg3 hv3; have HLY3 : LyAt w3 g2 0 x := LyAt.grown (by assumption) hg3 HNE.out))
        go_wp2_with fail
        have HB3 : Hid (Below w1.heap.size w1 w3) := Lib.hid ((bl_alloc HB2.out _).drew.trans hb3)
        rw [HXE.out] at ho3
        obtain ⟨A3, c3, rfl, hc3⟩ := ho3.form
        go_roundw
        case rel => exact ⟨k + 1, _, _, A3, c3, by go_num, hlt, rfl, hc3, by simp; have := HN.out; omega, Lib.hid (by rw [HX.out, ← HK.out]), Lib.hid rfl, Lib.hid ho3, HL2, HB3⟩
        case measure => simp [intOf]; omega
    · obtain rfl : k = ps.length := by omega
      have hout : out = ps.map lyP := by rw [HK.out, lysP_all]
      obtain ⟨E1, E2⟩ := HE.out (allP_take sP ps HL.out)
      have hn1 := HN.out
      have hol : out.length ≤ 1048576 := by omega
      subst hn1
      have HT := Lib.hid (implProfT_any A1 c1 out wr HO.out.rd hol (HL1.out.on HB.out).tab)
      rw [← hout] at E1 E2
      clear hol hout
      by_cases he : profT out = s
      · have F := Lib.hid (E1 he)
        have hq2 : ((profT out).toList == s.toList) = true := beq_t he
        clear E1 E2 he
        go_wp2_with fail
        refine HT.out.mono ?_
        rintro e w2 ⟨rfl, hb2⟩
        go_wp2_with fail
        go_ret2
        rw [F.out.1, F.out.2]
        exact ⟨_, rfl, (HO.out.below hb2).mono HB1.out.size, bl_trans HB1.out (bl_trans HB.out hb2)⟩
      · have F := Lib.hid (E2 he)
        have hq2 : ((profT out).toList == s.toList) = false := beq_f he
        clear E1 E2 he
        go_wp2_with fail
        refine HT.out.mono ?_
        rintro e w2 ⟨rfl, hb2⟩
        go_wp2_with fail
        go_ret2
        exact GivesLB.no F.out (bl_trans HB1.out (bl_trans HB.out hb2))
end Go.Proofs.YtcpdipopajhajaaDoor
