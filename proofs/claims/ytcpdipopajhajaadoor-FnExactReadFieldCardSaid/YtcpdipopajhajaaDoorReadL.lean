/- A list of numbers read from its text: the contracts of the program's and of the reference's ReadList (the program's in a world in which the library's tables and sentinels read as their initialisers lay them). -/
import Derived.Test.YtcpdipopajhajaaDoorRdlP
import Derived.Test.YtcpdipopajhajaaDoorCutS
import Derived.Test.YtcpdipopajhajaaDoorNumS
import Derived.Test.YtcpdipopajhajaaDoorNumI
import Derived.Test.YtcpdipopajhajaaDoorListT
namespace Go.Proofs.YtcpdipopajhajaaDoor
open Go.ChangeShapes Go.WideShapes Go.ChangeAt Go.RowKit Go.Deep
set_option linter.unusedVariables false
def MaxOk (w : World) : Prop := ∃ m, w.cell? ⟨0, 0, none⟩ = some (.int .i64 m)
theorem MaxOk.on {w w' : World} (h : MaxOk w) (hb : Below w.heap.size w w') : MaxOk w' := by
  obtain ⟨m, hm⟩ := h
  exact ⟨m, (hb.cell (World.block_lt_of_cell? w _ hm)).trans hm⟩
/-- What the library's variables read as, as far as the program needs it. -/
structure LibOk (w : World) : Prop where
  tab : TabOk w
  syn : SynOk w
  rng : RngOk w
  max : MaxOk w
theorem LibOk.on {w w' : World} (h : LibOk w) (hb : Below w.heap.size w w') : LibOk w' := ⟨h.tab.on hb, h.syn.on hb, h.rng.on hb, h.max.on hb⟩
theorem splitN_any (s : ByteArray) (c0 : UInt8) (n : Nat) (w : World) (hs : s.size ≤ 1048576) (hm : MaxOk w) (h1 : 1 ≤ n) (h2 : n ≤ 1000) :
    Calls Tryd.prog 34 #[.string s, .string ⟨#[c0]⟩, .int .i64 (n : Int)] w fun e w' => ∃ A c, e = .returned (.slice A (piecesN s c0 n).length c) ∧ RdT w' A (piecesN s c0 n) ∧ Below w.heap.size w w' := by
  obtain ⟨m, hm⟩ := hm
  refine (Tryd.strings_SplitN s ⟨#[c0]⟩ n m w (by omega) hm (Nat.le_refl _) h1 (by omega)).mono ?_
  rintro e w' ⟨rfl, rfl⟩
  refine ⟨_, _, rfl, ?_, bl_alloc (Below.refl _ _) _⟩
  intro k x hx
  refine ⟨_, _, rfl, ?_⟩
  rw [Nat.zero_add]
  refine (cell_of_row _ _ k _ _ (0, 0) (heap_alloc_new w _)).trans ?_
  have hk := (List.getElem?_eq_some_iff.1 hx).1
  unfold Lib.cellsOf
  rw [List.getElem?_toArray, List.getElem?_append_left (by rw [List.length_map]; exact hk), List.getElem?_map]
  exact congrArg (Option.map Value.string) hx
theorem ret_nl {v : Value} {a b : Bool} (h : a = b) : Ending.returned (.tuple #[v, .bool a]) = .returned (.tuple #[v, .bool b]) := by rw [h]
/-- A text that is no list. -/
theorem GivesNB.no {w w' : World} {l : List Int} {b : Bool} (h : b = false ∧ l = []) (hb : Below w.heap.size w w') : GivesNB w l b (.returned (.tuple #[.slice none 0 0, .bool false])) w' := by
  obtain ⟨rfl, rfl⟩ := h
  exact GivesNB.nil hb
theorem dash_list : (⟨#[45]⟩ : ByteArray).toList = [45] := by rw [ByteArray.toList_eq]
theorem dash_t {s : ByteArray} (h : s = ⟨#[45]⟩) : (s.toList == [45]) = true := by have := beq_t h; rwa [dash_list] at this
theorem dash_f {s : ByteArray} (h : ¬ s = ⟨#[45]⟩) : (s.toList == [45]) = false := by have := beq_f h; rwa [dash_list] at this
set_option maxHeartbeats 2000000 in
theorem specRdL_any (s : ByteArray) (w : World) (hs : s.size ≤ 1048576) : Calls Tryd.prog 8 #[.string s] w (GivesNB w (rdV s) (rdOk s)) := by
  by_cases hd : s = ⟨#[45]⟩
  · have F := Lib.hid (rd_dash hd)
    have hq := dash_t hd
    clear hd
    go_enter Tryd.func8, Tryd.ntmps8
    go_wp2_with fail
    go_ret2
    rw [F.out.1, F.out.2]
    exact GivesNB.emp (bl_alloc (Below.refl _ _) _)
  have hq := dash_f hd
  have hpl := pieces_len s 44
  by_cases h64 : 64 < (pieces s 44).length
  · have F := Lib.hid (rd_long hd h64)
    have hz : decide ((64 : Int) < ((pieces s 44).length : Int)) = true := decide_eq_true (by omega)
    clear hd
    go_enter Tryd.func8, Tryd.ntmps8
    go_wp2_with fail
    refine (l01SplitC_any s 44 _ hs).mono ?_
    rintro e w1 ⟨A, c, rfl, hlc, ho1, hb1⟩
    clear ho1
    go_wp2_with fail
    go_ret2
    exact GivesNB.no F.out hb1
  have h65 : (pieces s 44).length ≤ 64 := by omega
  have hz : decide ((64 : Int) < ((pieces s 44).length : Int)) = false := decide_eq_false (by omega)
  have HB := Lib.hid (fun k hk hb => rd_bad hd k hk hb)
  have HA := Lib.hid (fun a => rd_all hd h65 a)
  have HSZ := Lib.hid (fun x hx => pieces_size (s := s) (c := 44) (x := x) hx)
  clear hd h64 hpl
  go_enter Tryd.func8, Tryd.ntmps8
  go_wp2_with fail
  refine (l01SplitC_any s 44 _ hs).mono ?_
  rintro e w1 ⟨A, c, rfl, hlc, ho1, hb1⟩
  have hrd := Lib.hid ho1.rd
  clear ho1
  obtain ⟨ps, hps⟩ : ∃ ps, ps = pieces s 44 := ⟨_, rfl⟩
  have HB' : Hid (∀ (k : Nat) (hk : k < ps.length), okP ps[k] = false → rdOk s = false ∧ rdV s = []) := by subst hps; exact Lib.hid fun k hk hb => HB.out k hk hb
  have HA' : Hid (ps.all okP = true → rdOk s = true ∧ rdV s = ps.map vP) := by subst hps; exact Lib.hid fun a => HA.out a
  have HSZ' : Hid (∀ x ∈ ps, x.size ≤ s.size) := by subst hps; exact Lib.hid fun x hx => HSZ.out x hx
  rw [← hps] at hrd hlc h65 hz ⊢
  clear hps HB HA HSZ
  have hO0 := Lib.hid (OwnN.empty w1 w1.heap.size (Nat.le_refl _))
  have hB0 := Lib.hid (bl_alloc (Below.refl w1.heap.size w1) (.cells #[] 2))
  go_wp2_with fail
  go_loopw [5, 6] (fun o i wr => ∃ (k n : Nat) (out : List Int) (A : Option Addr) (c : Nat), i = .int .i64 k ∧ k ≤ ps.length ∧ o = .slice A n c ∧ n ≤ c ∧ n ≤ k ∧ Hid (out = valsP ps k) ∧ Hid (n = out.length) ∧ Hid (OwnN wr w1.heap.size (.slice A n c) out) ∧ Hid ((ps.take k).all okP = true) ∧ Below w1.heap.size w1 wr) (fun _ i _ => ps.length - (intOf i).toNat)
  case atStart => exact ⟨0, 0, [], _, _, rfl, Nat.zero_le _, rfl, Nat.le_refl _, Nat.le_refl _, Lib.hid rfl, Lib.hid rfl, hO0, by show _ = _; simp, hB0.out⟩
  case round =>
    obtain ⟨k, n, out, A1, c1, rfl, hk, rfl, hnc, hnk, HK, HN, HO, HL, hb⟩ := hrel
    by_cases hlt : k < ps.length
    · obtain ⟨g, o, rfl, hx⟩ := (hrd.out.below hb).at_ k hlt
      have hxs : ps[k].size ≤ maxLen := Nat.le_trans (HSZ'.out _ (List.getElem_mem hlt)) (by unfold maxLen; omega)
      rcases hn : nP ps[k] with _ | _
      · have F := Lib.hid (HB'.out k hlt (okP_n hn))
        have hn' : numB ps[k].data.toList = false := hn
        clear hn
        go_wp2_with (go_at_call 32; refine (l01Number_any _ _ hxs).mono ?_; rintro e w' ⟨rfl, rfl⟩)
        go_ret2
        exact GivesNB.no F.out (bl_trans hb1 hb)
      · have hn' : numB ps[k].data.toList = true := hn
        rcases hv : okV (vP ps[k]) with _ | _
        · have F := Lib.hid (HB'.out k hlt (okP_v hv))
          have hv' : inB (rnV ps[k].data.toList) (-1000000000000) 1000000000000 = false := hv
          clear hn hv
          go_wp2_with (first | (go_at_call 32; refine (l01Number_any _ _ hxs).mono ?_; rintro e w' ⟨rfl, rfl⟩) | (go_at_call 33; refine (l00In_any _ _ _ _).mono ?_; rintro e w' ⟨rfl, rfl⟩))
          go_ret2
          exact GivesNB.no F.out (bl_trans hb1 hb)
        · have HL2 := Lib.hid (allP_snoc okP ps k hlt HL.out (okP_t hn hv))
          have hv' : inB (rnV ps[k].data.toList) (-1000000000000) 1000000000000 = true := hv
          have HX := Lib.hid (valsP_s hlt)
          clear hn hv
          go_wp2_with (first | (go_at_call 32; refine (l01Number_any _ _ hxs).mono ?_; rintro e w' ⟨rfl, rfl⟩) | (go_at_call 33; refine (l00In_any _ _ _ _).mono ?_; rintro e w' ⟨rfl, rfl⟩) | (at_builtin; refine wpList_app_int _ rfl (.tmp 39) (.tmp 41) rfl w1.heap.size _ out rfl (HO.out.alloc _) wr.heap.size (vP ps[k]) rfl (new1i _ _ _) (by rw [← HN.out]; omega) (bl_alloc hb _).size ?_; intro v' w2 ho2 hg2))
          have hb02 : Below w1.heap.size w1 w2 := Below.grown (bl_alloc hb _) hg2 (bl_alloc hb _).size (HO.out.ge)
          obtain ⟨A2, c2, rfl, hc2⟩ := ho2.form
          go_roundw
          case rel => exact ⟨k + 1, _, _, A2, c2, by go_num, hlt, rfl, hc2, by simp; have := HN.out; omega, Lib.hid (by rw [HX.out, ← HK.out]), Lib.hid rfl, Lib.hid ho2, HL2, hb02⟩
          case measure => simp [intOf]; omega
    · obtain rfl : k = ps.length := by omega
      have F := Lib.hid (HA'.out (allP_take okP ps HL.out))
      have ho := HO.out
      rw [HK.out, valsP_all, ← F.out.2] at ho
      have HR : Hid (GivesNB w (rdV s) (rdOk s) (.returned (.tuple #[.slice A1 n c1, .bool true])) wr) := by
        refine Lib.hid ?_
        have hn1 : n = (rdV s).length := by rw [HN.out, HK.out, valsP_all, ← F.out.2]
        rw [F.out.1, hn1]
        refine ⟨A1, c1, rfl, by rw [← hn1]; exact hnc, ?_, bl_trans hb1 hb⟩
        have := ho.io
        exact this.mono hb1.size
      clear ho
      go_wp2_with fail
      go_ret2
      exact HR.out
set_option maxHeartbeats 2000000 in
theorem implRdL_any (s : ByteArray) (w : World) (hs : s.size ≤ 1048576) (hL : LibOk w) : Calls Tryd.prog 9 #[.string s] w (GivesNB w (rdV s) (rdOk s)) := by
  have HL := Lib.hid hL
  clear hL
  by_cases hd : s = ⟨#[45]⟩
  · have F := Lib.hid (rd_dash hd)
    have hq := dash_t hd
    clear hd
    go_enter Tryd.func9, Tryd.ntmps9
    go_wp2_with fail
    go_ret2
    rw [F.out.1, F.out.2]
    exact GivesNB.nil (Below.refl _ _)
  have hq := dash_f hd
  have HB := Lib.hid (fun k hk hb => rd_bad hd k hk hb)
  have HSP := Lib.hid (splitN_any s 44 65 w hs HL.out.max (by omega) (by omega))
  have hpn : (piecesN s 44 65).length ≤ 65 := piecesN_len s 44 (by omega)
  obtain ⟨ps, hps⟩ : ∃ ps, ps = piecesN s 44 65 := ⟨_, rfl⟩
  have HSZ : Hid (∀ x ∈ ps, x.size ≤ 1048576) := by subst hps; exact Lib.hid fun x hx => Nat.le_trans (piecesN_size hx) hs
  -- a piece that is no number: the text is no list
  have HB' : Hid (∀ (k : Nat) (hk : k < ps.length), nP ps[k] = false → rdOk s = false ∧ rdV s = []) := by
    refine Lib.hid fun k hk hb => ?_
    subst hps
    by_cases h65 : (pieces s 44).length ≤ 65
    · have e := piecesN_all (s := s) (c := 44) (n := 65) (by omega) h65
      have hk' : k < (pieces s 44).length := by rw [← e]; exact hk
      refine rd_bad hd k hk' (okP_n ?_)
      have e2 : (pieces s 44)[k] = (piecesN s 44 65)[k] := by congr 1; exact e.symm
      rw [e2]; exact hb
    · exact rd_long hd (by omega)
  -- all are numbers: the text of the numbers is the text just where it is a list
  have HE : Hid (ps.all nP = true → (listT (ps.map vP) = s → rdOk s = true ∧ rdV s = ps.map vP) ∧ (¬ listT (ps.map vP) = s → rdOk s = false ∧ rdV s = [])) := by
    refine Lib.hid fun ha => ?_
    subst hps
    by_cases h64 : (pieces s 44).length ≤ 64
    · have e := piecesN_all (s := s) (c := 44) (n := 65) (by omega) (by omega)
      rw [e] at ha ⊢
      have hf := rd_fits h64 ha
      rcases ho : (pieces s 44).all okP with _ | _
      · rw [ho] at hf
        refine ⟨fun h => ?_, fun _ => rd_no hd (by rw [ho]; simp)⟩
        rw [listT_f hf] at h
        exact absurd h.symm (rd_ne ha)
      · rw [ho] at hf
        exact ⟨fun _ => rd_all hd h64 ho, fun h => absurd (rd_back ha hf) h⟩
    · refine ⟨fun h => ?_, fun _ => rd_long hd (by omega)⟩
      have hl : (piecesN s 44 65).length = 65 := by
        by_cases h65 : (pieces s 44).length ≤ 65
        · rw [piecesN_all (by omega) h65]; omega
        · exact piecesN_full (by omega) (by omega)
      rw [listT_f (fits_long (by rw [List.length_map]; omega))] at h
      exact absurd h.symm (rd_ne2 (by omega))
  rw [← hps] at HSP hpn
  clear hps HB hd
  go_enter Tryd.func9, Tryd.ntmps9
  go_wp2_with fail
  refine HSP.out.mono ?_
  rintro e w1 ⟨A, c, rfl, hrd0, hb1⟩
  have hrd := Lib.hid hrd0
  clear hrd0 HSP
  have hO0 := Lib.hid (OwnN.nil w1 w1.heap.size)
  have hB0 := Lib.hid (Below.refl w1.heap.size w1)
  have HL1 := Lib.hid (HL.out.on hb1)
  go_wp2_with fail
  go_loopw [4, 14] (fun o i wr => ∃ (k n : Nat) (out : List Int) (A : Option Addr) (c : Nat), i = .int .i64 k ∧ k ≤ ps.length ∧ o = .slice A n c ∧ n ≤ c ∧ n ≤ k ∧ Hid (out = valsP ps k) ∧ Hid (n = out.length) ∧ Hid (OwnN wr w1.heap.size (.slice A n c) out) ∧ Hid ((ps.take k).all nP = true) ∧ Below w1.heap.size w1 wr) (fun _ i _ => ps.length - (intOf i).toNat)
  case atStart => exact ⟨0, 0, [], _, _, rfl, Nat.zero_le _, rfl, Nat.le_refl _, Nat.le_refl _, Lib.hid rfl, Lib.hid rfl, hO0, by show _ = _; simp, hB0.out⟩
  case round =>
    obtain ⟨k, n, out, A1, c1, rfl, hk, rfl, hnc, hnk, HK, HN, HO, HA, hb⟩ := hrel
    by_cases hlt : k < ps.length
    · obtain ⟨g, o, rfl, hx⟩ := (hrd.out.below hb).at_ k hlt
      have HC := Lib.hid (implNum_any ps[k] wr (HSZ.out _ (List.getElem_mem hlt)) (HL1.out.on hb).tab (HL1.out.on hb).syn (HL1.out.on hb).rng)
      rcases hn : nP ps[k] with _ | _
      · have F := Lib.hid (HB'.out k hlt hn)
        have hn' : numB ps[k].data.toList = false := hn
        clear hn
        go_wp2_with fail
        refine HC.out.mono ?_
        rintro e w2 ⟨rfl, hb2⟩
        go_wp2_with fail
        go_ret2
        exact GivesNB.no F.out (bl_trans hb1 (bl_trans hb hb2))
      · have hn' : numB ps[k].data.toList = true := hn
        have HA2 := Lib.hid (allP_snoc nP ps k hlt HA.out hn)
        have HX := Lib.hid (valsP_s hlt)
        clear hn
        go_wp2_with fail
        refine HC.out.mono ?_
        rintro e w2 ⟨rfl, hb2⟩
        have hb02 := bl_trans hb hb2
        have HO2 := Lib.hid (HO.out.below hb2)
        go_wp2_with (at_builtin; refine wpList_app_int _ rfl (.tmp 25) (.tmp 27) rfl w1.heap.size _ out rfl (HO2.out.alloc _) w2.heap.size (vP ps[k]) rfl (new1i _ _ _) (by rw [← HN.out]; omega) (bl_alloc hb02 _).size ?_; intro v' w3 ho3 hg3)
        have hb03 : Below w1.heap.size w1 w3 := Below.grown (bl_alloc hb02 _) hg3 (bl_alloc hb02 _).size (HO2.out.ge)
        obtain ⟨A2, c2, rfl, hc2⟩ := ho3.form
        go_roundw
        case rel => exact ⟨k + 1, _, _, A2, c2, by go_num, hlt, rfl, hc2, by simp; have := HN.out; omega, Lib.hid (by rw [HX.out, ← HK.out]), Lib.hid rfl, Lib.hid ho3, HA2, hb03⟩
        case measure => simp [intOf]; omega
    · obtain rfl : k = ps.length := by omega
      have hall := allP_take nP ps HA.out
      obtain ⟨E1, E2⟩ := HE.out hall
      have ho := HO.out
      have hout : out = ps.map vP := by rw [HK.out, valsP_all]
      have hn1 : n = out.length := HN.out
      have hlen : out.length ≤ 65 := by omega
      subst hn1
      have HT := Lib.hid (implListT_any A1 c1 out wr ho.io.rd (by omega) (HL1.out.on hb).tab)
      rw [← hout] at E1 E2
      have HO' := Lib.hid ho.io
      have HB1 := Lib.hid hb1
      clear ho hout
      by_cases he : listT out = s
      · have F := Lib.hid (E1 he)
        have hq2 : ((listT out).toList == s.toList) = true := beq_t he
        clear E1 E2 he
        go_wp2_with fail
        refine HT.out.mono ?_
        rintro e w2 ⟨rfl, hb2⟩
        go_wp2_with fail
        go_ret2
        rw [F.out.1, F.out.2]
        exact ⟨A1, c1, rfl, hnc, (HO'.out.below hb2).mono hb1.size, bl_trans hb1 (bl_trans hb hb2)⟩
      · have F := Lib.hid (E2 he)
        have hq2 : ((listT out).toList == s.toList) = false := beq_f he
        clear E1 E2 he
        go_wp2_with fail
        refine HT.out.mono ?_
        rintro e w2 ⟨rfl, hb2⟩
        go_wp2_with fail
        go_ret2
        exact GivesNB.no F.out (bl_trans hb1 (bl_trans hb hb2))
end Go.Proofs.YtcpdipopajhajaaDoor
