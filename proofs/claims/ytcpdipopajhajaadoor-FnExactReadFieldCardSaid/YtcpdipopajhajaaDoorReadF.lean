/- A field read from its text: the contracts of the program's and of the reference's ReadField (the program's in a world in which the library's tables and sentinels read as their initialisers lay them). -/
import Derived.Test.YtcpdipopajhajaaDoorRdfP
import Derived.Test.YtcpdipopajhajaaDoorReadL
import Derived.Test.YtcpdipopajhajaaDoorFldT
namespace Go.Proofs.YtcpdipopajhajaaDoor
open Go.ChangeShapes Go.WideShapes Go.ChangeAt Go.RowKit Go.Deep
set_option linter.unusedVariables false
/-- A field with masses of its own is returned, and whether there is one. -/
def GivesFB (w : World) (r c : Int) (ns : List Int) (b : Bool) (e : Ending) (w' : World) : Prop := ∃ A cap, e = .returned (.tuple #[.agg #[.int .i64 r, .int .i64 c, .slice A ns.length cap], .bool b]) ∧ ns.length ≤ cap ∧ OwnIO w' w.heap.size A ns ∧ Below w.heap.size w w'
theorem GivesFB.no {w w' : World} {s : ByteArray} (h : NoField s) (hb : Below w.heap.size w w') : GivesFB w (rfR s) (rfC s) (rfV s) (rfOk s) (.returned (.tuple #[.agg #[.int .i64 0, .int .i64 0, .slice none 0 0], .bool false])) w' := by
  obtain ⟨h1, h2, h3, h4⟩ := h
  rw [h1, h2, h3, h4]
  exact ⟨none, 0, rfl, Nat.le_refl _, .inl rfl, hb⟩
theorem OwnIO.set {w : World} {B p : Nat} {A : Option Addr} {ns : List Int} (h : OwnIO w B A ns) (hp : p < B) (o : Nat) (u : Value) : OwnIO (w.setCell ⟨p, o, none⟩ u) B A ns := by
  rcases h with rfl | ⟨g, rfl, hB, h⟩
  · exact .inl rfl
  · exact .inr ⟨g, rfl, hB, h.of_block (Below.heap_setCell w ⟨p, o, none⟩ u g (show g ≠ p by omega))⟩
/-- The cells of the result's variable, which the call lays first. -/
def FZ (w : World) (p : Nat) : Prop := w.cell? ⟨p, 0, none⟩ = some (.int .i64 0) ∧ w.cell? ⟨p, 1, none⟩ = some (.int .i64 0) ∧ w.cell? ⟨p, 2, none⟩ = some (.slice none 0 0) ∧ w.frozen? ⟨p, 0, none⟩ = false ∧ w.frozen? ⟨p, 1, none⟩ = false ∧ w.frozen? ⟨p, 2, none⟩ = false
theorem FZ.of {w wN : World} {t : TypeId} (hb : Below (w.alloc (.cells #[.int .i64 0, .int .i64 0, .slice none 0 0] t)).heap.size (w.alloc (.cells #[.int .i64 0, .int .i64 0, .slice none 0 0] t)) wN) : FZ wN w.heap.size := by
  have hk : wN.heap[w.heap.size]? = some (.cells #[.int .i64 0, .int .i64 0, .slice none 0 0] t (0, 0)) := (hb.block w.heap.size (by simp)).trans (heap_alloc_new w _)
  exact ⟨(cell_of_row _ _ _ _ _ (0, 0) hk).trans rfl, (cell_of_row _ _ _ _ _ (0, 0) hk).trans rfl, (cell_of_row _ _ _ _ _ (0, 0) hk).trans rfl, frozen_of_row wN _ 0 _ _ hk, frozen_of_row wN _ 1 _ _ hk, frozen_of_row wN _ 2 _ _ hk⟩
/-- The two words. -/
theorem OwnT.two {w : World} {B n c : Nat} {A : Option Addr} {x y : ByteArray} (h : OwnT w B (.slice A n c) [x, y]) : ∃ g, A = some ⟨g, 0, none⟩ ∧ g < w.heap.size ∧ w.cell? ⟨g, 0, none⟩ = some (.string x) ∧ w.cell? ⟨g, 1, none⟩ = some (.string y) := by
  obtain ⟨g, hA, hg, _, hc⟩ := h.at_ (by simp)
  exact ⟨g, hA, hg, hc 0 x rfl, by have := hc 1 y rfl; rwa [Nat.zero_add] at this⟩
theorem numP_any (x : ByteArray) (w : World) (hs : x.size ≤ 1048576) : Calls Tryd.prog 32 #[.string x] w fun e w' => e = .returned (.tuple #[.int .i64 (vP x), .bool (nP x)]) ∧ w = w' := l01Number_any x w (by unfold maxLen; omega)
theorem cut_any (s : ByteArray) (c0 : UInt8) (w : World) (hs : s.size ≤ 1048576) (hm : MaxOk w) :
    Calls Tryd.prog 52 #[.string s, .string ⟨#[c0]⟩] w fun e w' => (∃ b, e = .returned (.tuple #[.string (cA s c0), .string (cB s c0), .bool b])) ∧ Below w.heap.size w w' := by
  obtain ⟨m, hm⟩ := hm
  refine (Tryd.strings_Cut s ⟨#[c0]⟩ m w (by omega) hm).mono ?_
  rintro e w' ⟨rfl, n, rfl⟩
  exact ⟨⟨_, rfl⟩, bl_drewN (Below.refl _ _) n⟩
theorem decP_any (x : ByteArray) (w : World) (hs : x.size ≤ 1048576) (hL : LibOk w) : Calls Tryd.prog 35 #[.string x] w fun e w' => e = .returned (.tuple #[.int .i64 (vP x), .bool (nP x)]) ∧ Below w.heap.size w w' := implNum_any x w hs hL.tab hL.syn hL.rng
set_option maxRecDepth 20000 in
set_option maxHeartbeats 4000000 in
theorem l06Read_any (s : ByteArray) (w : World) (hs : s.size ≤ 1048576) : Calls Tryd.prog 51 #[.string s] w (GivesFB w (rfR s) (rfC s) (rfV s) (rfOk s)) := by
  have HBA := Lib.hid (bl_alloc (Below.refl w.heap.size w) (.cells #[.int .i64 0, .int .i64 0, .slice none 0 0] 32))
  have sA : (fA s).size ≤ 1048576 := Nat.le_trans (cA_size s 32) hs
  have sT : (fT s).size ≤ 1048576 := Nat.le_trans (cB_size s 32) hs
  have sR : (fR s).size ≤ 1048576 := Nat.le_trans (cA_size (fA s) 120) sA
  have sC : (fC s).size ≤ 1048576 := Nat.le_trans (cB_size (fA s) 120) sA
  by_cases p2 : (pieces s 32).length = 2
  · have hz : (((2 : Nat) : Int) != 2) = false := by decide
    have HP := Lib.hid p2
    go_enter Tryd.func51, Tryd.ntmps51
    go_wp2_with fail
    refine (l01SplitC_any s 32 _ hs).mono ?_
    rintro e w1 ⟨A, c, rfl, hlc, ho1, hb1⟩
    rw [p2] at hlc ⊢
    rw [pieces_2 p2] at ho1
    obtain ⟨g, rfl, hg1, x0, x1⟩ := ho1.two
    clear ho1 p2
    have HX1 := Lib.hid x1
    have HB1 := Lib.hid hb1
    clear x1 hb1
    go_wp2_with fail
    refine (l01SplitC_any (fA s) 120 _ sA).mono ?_
    rintro e w2 ⟨A2, c2, rfl, hlc2, ho2, hb2⟩
    have HO2 := Lib.hid ho2
    have HB2 := Lib.hid (bl_trans HB1.out hb2)
    have x1 : w2.cell? ⟨g, 1, none⟩ = some (.string (fT s)) := (hb2.cell (p := ⟨g, 1, none⟩) hg1).trans HX1.out
    clear ho2 hb2 x0
    go_wp2_with fail
    refine (specRdL_any (fT s) _ sT).mono ?_
    rintro e w3 ⟨A3, c3, rfl, hc3, ho3, hb3⟩
    have HO3 := Lib.hid (HO2.out.below hb3)
    have HB3 := Lib.hid (bl_trans HB2.out hb3)
    have HR3 := Lib.hid ho3
    have HZ3 := Lib.hid (FZ.of HB3.out)
    have hw2 := HB2.out.size
    clear x1 ho3 hb3 HO2
    by_cases x2 : (pieces (fA s) 120).length = 2
    · rcases ht : rdOk (fT s) with _ | _
      · have F := Lib.hid (rf_t ht)
        obtain ⟨z0, z1, z2, f0, f1, f2⟩ := HZ3.out
        rw [x2]
        clear x2
        go_wp2_with fail
        refine bodyPost_ret (v := .tuple #[.agg #[.int .i64 0, .int .i64 0, .slice none 0 0], .bool false]) (by simp [*, results, Tryd.results51, go_sem]) rfl ?_
        exact GivesFB.no F.out (bl_set (bl_set (bl_set (bl_trans HBA.out HB3.out) _ _ (Nat.le_refl _) _) _ _ (Nat.le_refl _) _) _ _ (Nat.le_refl _) _)
      · have ho3 := HO3.out
        rw [pieces_2 x2] at ho3
        obtain ⟨g2, rfl, hg2, y0, y1⟩ := ho3.two
        have HY0 := Lib.hid y0
        have HY1 := Lib.hid y1
        have HX2 := Lib.hid x2
        have HT := Lib.hid ht
        rw [x2]
        clear x2 ho3 y1
        go_wp2_with fail
        refine (numP_any (fR s) _ sR).mono ?_
        rintro e w4 ⟨rfl, rfl⟩
        have y1 := HY1.out
        clear y0
        go_wp2_with fail
        refine (numP_any (fC s) _ sC).mono ?_
        rintro e w4 ⟨rfl, rfl⟩
        clear y1
        rcases hr : nP (fR s) with _ | _
        · have F := Lib.hid (rf_r hr)
          clear hr
          have HB4 := Lib.hid (bl_trans HB3.out (bl_alloc (Below.refl w3.heap.size w3) (.cells #[.int .i64 (vP (fR s)), .int .i64 (vP (fC s)), .slice A3 (rdV (fT s)).length c3] 32)))
          obtain ⟨z0, z1, z2, f0, f1, f2⟩ := FZ.of HB4.out
          go_wp2_with fail
          refine bodyPost_ret (v := .tuple #[.agg #[.int .i64 0, .int .i64 0, .slice none 0 0], .bool false]) (by simp [*, results, Tryd.results51, go_sem]) rfl ?_
          exact GivesFB.no F.out (bl_set (bl_set (bl_set (bl_trans HBA.out HB4.out) _ _ (Nat.le_refl _) _) _ _ (Nat.le_refl _) _) _ _ (Nat.le_refl _) _)
        rcases hc : nP (fC s) with _ | _
        · have F := Lib.hid (rf_c hc)
          clear hc hr
          have HB4 := Lib.hid (bl_trans HB3.out (bl_alloc (Below.refl w3.heap.size w3) (.cells #[.int .i64 (vP (fR s)), .int .i64 (vP (fC s)), .slice A3 (rdV (fT s)).length c3] 32)))
          obtain ⟨z0, z1, z2, f0, f1, f2⟩ := FZ.of HB4.out
          go_wp2_with fail
          refine bodyPost_ret (v := .tuple #[.agg #[.int .i64 0, .int .i64 0, .slice none 0 0], .bool false]) (by simp [*, results, Tryd.results51, go_sem]) rfl ?_
          exact GivesFB.no F.out (bl_set (bl_set (bl_set (bl_trans HBA.out HB4.out) _ _ (Nat.le_refl _) _) _ _ (Nat.le_refl _) _) _ _ (Nat.le_refl _) _)
        have HR := Lib.hid hr
        have HC := Lib.hid hc
        clear hr hc
        have hb4 := bl_alloc (Below.refl w3.heap.size w3) (.cells #[.int .i64 (vP (fR s)), .int .i64 (vP (fC s)), .slice A3 (rdV (fT s)).length c3] 32)
        have HX := Lib.hid (FBx.new w3 32 (vP (fR s)) (vP (fC s)) A3 (rdV (fT s)).length c3)
        have HRD := Lib.hid (HR3.out.rd.below hb4)
        have HB4 := Lib.hid (bl_trans HB3.out hb4)
        have HO4 := Lib.hid (HR3.out.below hb4)
        have hlen := rdV_le (fT s)
        clear hb4
        go_wp2_with fail
        refine (l06Ok_any _ (vP (fR s)) (vP (fC s)) A3 c3 (rdV (fT s)) _ HX.out HRD.out (by omega)).mono ?_
        rintro e w5 ⟨rfl, hb5⟩
        have HB5 := Lib.hid (bl_trans HB4.out hb5)
        have HX5 := Lib.hid (HX.out.below hb5)
        have HO5 := Lib.hid (HO4.out.below hb5)
        obtain ⟨z0, z1, z2, f0, f1, f2⟩ := FZ.of HB5.out
        clear hb5
        rcases ho : okF (vP (fR s)) (vP (fC s)) (rdV (fT s)) with _ | _
        · have F := Lib.hid (rf_nok ho)
          clear ho
          go_wp2_with fail
          refine bodyPost_ret (v := .tuple #[.agg #[.int .i64 0, .int .i64 0, .slice none 0 0], .bool false]) (by simp [*, results, Tryd.results51, go_sem]) rfl ?_
          exact GivesFB.no F.out (bl_set (bl_set (bl_set (bl_trans HBA.out HB5.out) _ _ (Nat.le_refl _) _) _ _ (Nat.le_refl _) _) _ _ (Nat.le_refl _) _)
        · have F := Lib.hid (rf_yes (rf_ok HP.out HX2.out HR.out HC.out HT.out ho))
          obtain ⟨b0, b1, b2⟩ := HX5.out.fb
          have hp5 : w.heap.size < w2.heap.size := by have := hw2; simp at this; omega
          clear ho
          go_wp2_with fail
          refine bodyPost_ret (v := .tuple #[.agg #[.int .i64 (vP (fR s)), .int .i64 (vP (fC s)), .slice A3 (rdV (fT s)).length c3], .bool true]) (by simp [*, results, Tryd.results51, go_sem]) rfl ?_
          rw [F.out.1, F.out.2.1, F.out.2.2.1, F.out.2.2.2]
          exact ⟨A3, c3, rfl, hc3, (((HO5.out.set hp5 _ _).set hp5 _ _).set hp5 _ _).mono (by omega), bl_set (bl_set (bl_set (bl_trans HBA.out HB5.out) _ _ (Nat.le_refl _) _) _ _ (Nat.le_refl _) _) _ _ (Nat.le_refl _) _⟩
    · have F := Lib.hid (rf_x x2)
      have hz2 : (((pieces (fA s) 120).length : Int) != 2) = true := by rw [bne_iff_ne]; omega
      obtain ⟨z0, z1, z2, f0, f1, f2⟩ := HZ3.out
      clear x2
      go_wp2_with fail
      refine bodyPost_ret (v := .tuple #[.agg #[.int .i64 0, .int .i64 0, .slice none 0 0], .bool false]) (by simp [*, results, Tryd.results51, go_sem]) rfl ?_
      exact GivesFB.no F.out (bl_set (bl_set (bl_set (bl_trans HBA.out HB3.out) _ _ (Nat.le_refl _) _) _ _ (Nat.le_refl _) _) _ _ (Nat.le_refl _) _)
  · have F := Lib.hid (rf_2 p2)
    have hz : (((pieces s 32).length : Int) != 2) = true := by rw [bne_iff_ne]; omega
    clear p2
    go_enter Tryd.func51, Tryd.ntmps51
    go_wp2_with fail
    refine (l01SplitC_any s 32 _ hs).mono ?_
    rintro e w1 ⟨A, c, rfl, hlc, ho1, hb1⟩
    clear ho1
    obtain ⟨z0, z1, z2, f0, f1, f2⟩ := FZ.of hb1
    have HB1 := Lib.hid hb1
    clear hb1
    go_wp2_with fail
    refine bodyPost_ret (v := .tuple #[.agg #[.int .i64 0, .int .i64 0, .slice none 0 0], .bool false]) (by simp [*, results, Tryd.results51, go_sem]) rfl ?_
    exact GivesFB.no F.out (bl_set (bl_set (bl_set (bl_trans HBA.out HB1.out) _ _ (Nat.le_refl _) _) _ _ (Nat.le_refl _) _) _ _ (Nat.le_refl _) _)
set_option maxHeartbeats 1000000 in
theorem specRdF_any (s : ByteArray) (w : World) (hs : s.size ≤ 1048576) : Calls Tryd.prog 27 #[.string s] w (GivesFB w (rfR s) (rfC s) (rfV s) (rfOk s)) := by
  have HBA := Lib.hid (bl_alloc (Below.refl w.heap.size w) (.cells #[.int .i64 0, .int .i64 0, .slice none 0 0] 32))
  have HC := Lib.hid fun W : World => l06Read_any s W hs
  generalize rfR s = r at *
  generalize rfC s = k at *
  generalize rfV s = ns at *
  generalize rfOk s = b at *
  go_enter Tryd.func27, Tryd.ntmps27
  go_wp2_with fail
  refine (HC.out _).mono ?_
  rintro e w1 ⟨A, c, rfl, hc, ho, hb⟩
  have HO := Lib.hid ho
  have HB := Lib.hid hb
  obtain ⟨z0, z1, z2, f0, f1, f2⟩ := FZ.of hb
  clear ho hb
  go_wp2_with fail
  refine bodyPost_ret (v := .tuple #[.agg #[.int .i64 r, .int .i64 k, .slice A ns.length c], .bool b]) (by simp [*, results, Tryd.results27, go_sem]) rfl ?_
  have hp : w.heap.size < (w.alloc (.cells #[.int .i64 0, .int .i64 0, .slice none 0 0] 32)).heap.size := by simp
  exact ⟨A, c, rfl, hc, (((HO.out.set hp _ _).set hp _ _).set hp _ _).mono (Nat.le_of_lt hp), bl_set (bl_set (bl_set (bl_trans HBA.out HB.out) _ _ (Nat.le_refl _) _) _ _ (Nat.le_refl _) _) _ _ (Nat.le_refl _) _⟩
set_option maxRecDepth 20000 in
set_option maxHeartbeats 4000000 in
theorem implRdF_any (s : ByteArray) (w : World) (hs : s.size ≤ 1048576) (hL : LibOk w) : Calls Tryd.prog 28 #[.string s] w (GivesFB w (rfR s) (rfC s) (rfV s) (rfOk s)) := by
  have hbA := bl_alloc (Below.refl w.heap.size w) (.cells #[.int .i64 0, .int .i64 0, .slice none 0 0] 32)
  have HBA := Lib.hid hbA
  have HL0 := Lib.hid (hL.on hbA)
  clear hL hbA
  have sA : (fA s).size ≤ 1048576 := Nat.le_trans (cA_size s 32) hs
  have sT : (fT s).size ≤ 1048576 := Nat.le_trans (cB_size s 32) hs
  have sR : (fR s).size ≤ 1048576 := Nat.le_trans (cA_size (fA s) 120) sA
  have sC : (fC s).size ≤ 1048576 := Nat.le_trans (cB_size (fA s) 120) sA
  have HC1 := Lib.hid fun (W : World) (h : LibOk W) => cut_any s 32 W hs h.max
  have HC2 := Lib.hid fun (W : World) (h : LibOk W) => cut_any (fA s) 120 W sA h.max
  go_enter Tryd.func28, Tryd.ntmps28
  go_wp2_with fail
  refine (HC1.out _ HL0.out).mono ?_
  rintro e w1 ⟨⟨b1, rfl⟩, hb1⟩
  rw [show cA s 32 = fA s from rfl, show cB s 32 = fT s from rfl]
  have HB1 := Lib.hid hb1
  have HL1 := Lib.hid (HL0.out.on hb1)
  clear hb1
  go_wp2_with fail
  refine (HC2.out _ HL1.out).mono ?_
  rintro e w2 ⟨⟨b2, rfl⟩, hb2⟩
  rw [show cA (fA s) 120 = fR s from rfl, show cB (fA s) 120 = fC s from rfl]
  have HB2 := Lib.hid (bl_trans HB1.out hb2)
  have HL2 := Lib.hid (HL1.out.on hb2)
  clear hb2
  go_wp2_with fail
  refine (decP_any (fR s) _ sR HL2.out).mono ?_
  rintro e w3 ⟨rfl, hb3⟩
  have HB3 := Lib.hid (bl_trans HB2.out hb3)
  have HL3 := Lib.hid (HL2.out.on hb3)
  clear hb3
  go_wp2_with fail
  refine (decP_any (fC s) _ sC HL3.out).mono ?_
  rintro e w4 ⟨rfl, hb4⟩
  have HB4 := Lib.hid (bl_trans HB3.out hb4)
  have HL4 := Lib.hid (HL3.out.on hb4)
  clear hb4
  go_wp2_with fail
  refine (implRdL_any (fT s) _ sT HL4.out).mono ?_
  rintro e w5 ⟨A, c, rfl, hc, ho5, hb5⟩
  have HO5 := Lib.hid ho5
  have HB5 := Lib.hid (bl_trans HB4.out hb5)
  have HL5 := Lib.hid (HL4.out.on hb5)
  have hw4 := HB4.out.size
  clear ho5 hb5
  have hb6 := bl_alloc (Below.refl w5.heap.size w5) (.cells #[.int .i64 (vP (fR s)), .int .i64 (vP (fC s)), .slice A (rdV (fT s)).length c] 32)
  have HX := Lib.hid (FBx.new w5 32 (vP (fR s)) (vP (fC s)) A (rdV (fT s)).length c)
  have HRD := Lib.hid (HO5.out.rd.below hb6)
  have HB6 := Lib.hid (bl_trans HB5.out hb6)
  have HO6 := Lib.hid (HO5.out.below hb6)
  have HT6 := Lib.hid ((HL5.out.on hb6).tab)
  have hlen := rdV_le (fT s)
  obtain ⟨z0, z1, z2, f0, f1, f2⟩ := FZ.of HB6.out
  clear hb6
  rcases hr : nP (fR s) with _ | _
  · have F := Lib.hid (rf_r hr)
    clear hr
    go_wp2_with fail
    refine bodyPost_ret (v := .tuple #[.agg #[.int .i64 0, .int .i64 0, .slice none 0 0], .bool false]) (by simp [*, results, Tryd.results28, go_sem]) rfl ?_
    exact GivesFB.no F.out (bl_set (bl_set (bl_set (bl_trans HBA.out HB6.out) _ _ (Nat.le_refl _) _) _ _ (Nat.le_refl _) _) _ _ (Nat.le_refl _) _)
  rcases hcc : nP (fC s) with _ | _
  · have F := Lib.hid (rf_c hcc)
    clear hr hcc
    go_wp2_with fail
    refine bodyPost_ret (v := .tuple #[.agg #[.int .i64 0, .int .i64 0, .slice none 0 0], .bool false]) (by simp [*, results, Tryd.results28, go_sem]) rfl ?_
    exact GivesFB.no F.out (bl_set (bl_set (bl_set (bl_trans HBA.out HB6.out) _ _ (Nat.le_refl _) _) _ _ (Nat.le_refl _) _) _ _ (Nat.le_refl _) _)
  rcases ht : rdOk (fT s) with _ | _
  · have F := Lib.hid (rf_t ht)
    clear hr hcc ht
    go_wp2_with fail
    refine bodyPost_ret (v := .tuple #[.agg #[.int .i64 0, .int .i64 0, .slice none 0 0], .bool false]) (by simp [*, results, Tryd.results28, go_sem]) rfl ?_
    exact GivesFB.no F.out (bl_set (bl_set (bl_set (bl_trans HBA.out HB6.out) _ _ (Nat.le_refl _) _) _ _ (Nat.le_refl _) _) _ _ (Nat.le_refl _) _)
  have HR := Lib.hid hr
  have HC := Lib.hid hcc
  have HT := Lib.hid ht
  clear hr hcc ht z0 z1 z2 f0 f1 f2
  by_cases he : fldT (vP (fR s)) (vP (fC s)) (rdV (fT s)) = s
  · have F := Lib.hid (rf_yes (rf_all HR.out HC.out HT.out he))
    have hq : ((fldT (vP (fR s)) (vP (fC s)) (rdV (fT s))).toList == s.toList) = true := beq_t he
    clear he
    go_wp2_with fail
    refine (implFldT_any _ _ A c (rdV (fT s)) _ HRD.out (by omega) HT6.out).mono ?_
    rintro e w7 ⟨rfl, hb7⟩
    have HB7 := Lib.hid (bl_trans HB6.out hb7)
    have HO7 := Lib.hid (HO6.out.below hb7)
    obtain ⟨b0, b1, b2⟩ := (HX.out.below hb7).fb
    obtain ⟨z0, z1, z2, f0, f1, f2⟩ := FZ.of HB7.out
    have hp4 : w.heap.size < w4.heap.size := by have := hw4; simp at this; omega
    clear hb7
    go_wp2_with fail
    refine bodyPost_ret (v := .tuple #[.agg #[.int .i64 (vP (fR s)), .int .i64 (vP (fC s)), .slice A (rdV (fT s)).length c], .bool true]) (by simp [*, results, Tryd.results28, go_sem]) rfl ?_
    rw [F.out.1, F.out.2.1, F.out.2.2.1, F.out.2.2.2]
    exact ⟨A, c, rfl, hc, (((HO7.out.set hp4 _ _).set hp4 _ _).set hp4 _ _).mono (by omega), bl_set (bl_set (bl_set (bl_trans HBA.out HB7.out) _ _ (Nat.le_refl _) _) _ _ (Nat.le_refl _) _) _ _ (Nat.le_refl _) _⟩
  · have F := Lib.hid (rf_e he)
    have hq : ((fldT (vP (fR s)) (vP (fC s)) (rdV (fT s))).toList == s.toList) = false := beq_f he
    clear he
    go_wp2_with fail
    refine (implFldT_any _ _ A c (rdV (fT s)) _ HRD.out (by omega) HT6.out).mono ?_
    rintro e w7 ⟨rfl, hb7⟩
    have HB7 := Lib.hid (bl_trans HB6.out hb7)
    obtain ⟨z0, z1, z2, f0, f1, f2⟩ := FZ.of HB7.out
    clear hb7
    go_wp2_with fail
    refine bodyPost_ret (v := .tuple #[.agg #[.int .i64 0, .int .i64 0, .slice none 0 0], .bool false]) (by simp [*, results, Tryd.results28, go_sem]) rfl ?_
    exact GivesFB.no F.out (bl_set (bl_set (bl_set (bl_trans HBA.out HB7.out) _ _ (Nat.le_refl _) _) _ _ (Nat.le_refl _) _) _ _ (Nat.le_refl _) _)
end Go.Proofs.YtcpdipopajhajaaDoor
