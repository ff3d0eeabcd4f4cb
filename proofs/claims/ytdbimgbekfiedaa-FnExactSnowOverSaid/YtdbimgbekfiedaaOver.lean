/- Snow over a field: the contracts of the program's and of the reference's SnowOver. No condition. -/
import Derived.Test.YtdbimgbekfiedaaOverP
import Derived.Test.YtdbimgbekfiedaaFldMk
import Derived.Deep.RegionHeld3
import Derived.Deep.DeepCutAuto
namespace Go.Proofs.Ytdbimgbekfiedaa
open Go.ChangeShapes Go.WideShapes Go.ChangeAt Go.RowKit Go.Deep Go.Joins
set_option linter.unusedVariables false
/-- A field with masses of its own is returned, and a code. -/
def GivesFC (w : World) (r s : Int) (ns : List Int) (b : Int) (e : Ending) (w' : World) : Prop := ∃ A cap, e = .returned (.tuple #[.agg #[.int .i64 r, .int .i64 s, .slice A ns.length cap], .int .i64 b]) ∧ ns.length ≤ cap ∧ OwnIO w' w.heap.size A ns ∧ Below w.heap.size w w'
theorem GivesFC.no {w w' : World} {r s m c : Int} {ns : List Int} (h : NoOver r s ns m c) (hb : Below w.heap.size w w') : GivesFC w (overR r s ns m) (overS r s ns m) (overV r s ns m) (overC r s ns m) (.returned (.tuple #[.agg #[.int .i64 0, .int .i64 0, .slice none 0 0], .int .i64 c])) w' := by
  obtain ⟨h1, h2, h3, h4⟩ := h
  rw [h1, h2, h3, h4]
  exact ⟨none, 0, rfl, Nat.le_refl _, .inl rfl, hb⟩
/-- The cells of the result's variable, which the call lays first. -/
def FZ (w : World) (p : Nat) : Prop := w.cell? ⟨p, 0, none⟩ = some (.int .i64 0) ∧ w.cell? ⟨p, 1, none⟩ = some (.int .i64 0) ∧ w.cell? ⟨p, 2, none⟩ = some (.slice none 0 0) ∧ w.frozen? ⟨p, 0, none⟩ = false ∧ w.frozen? ⟨p, 1, none⟩ = false ∧ w.frozen? ⟨p, 2, none⟩ = false
theorem FZ.row {w : World} {p : Nat} {t : TypeId} (hk : w.heap[p]? = some (.cells #[.int .i64 0, .int .i64 0, .slice none 0 0] t (0, 0))) : FZ w p :=
  ⟨(cell_of_row _ _ _ _ _ (0, 0) hk).trans rfl, (cell_of_row _ _ _ _ _ (0, 0) hk).trans rfl, (cell_of_row _ _ _ _ _ (0, 0) hk).trans rfl, frozen_of_row w _ 0 _ _ hk, frozen_of_row w _ 1 _ _ hk, frozen_of_row w _ 2 _ _ hk⟩
theorem FZ.of {w wN : World} {t : TypeId} {p : Nat} (hp : p = w.heap.size) (hb : Below (w.alloc (.cells #[.int .i64 0, .int .i64 0, .slice none 0 0] t)).heap.size (w.alloc (.cells #[.int .i64 0, .int .i64 0, .slice none 0 0] t)) wN) : FZ wN p := by
  subst hp
  exact FZ.row ((hb.block w.heap.size (by simp)).trans (heap_alloc_new w _))
theorem zrow {V w : World} {t : TypeId} (hb : Below (V.alloc (.cells #[.int .i64 0, .int .i64 0, .slice none 0 0] t)).heap.size (V.alloc (.cells #[.int .i64 0, .int .i64 0, .slice none 0 0] t)) w) : w.heap[V.heap.size]? = some (.cells #[.int .i64 0, .int .i64 0, .slice none 0 0] t (0, 0)) :=
  (hb.block V.heap.size (by simp)).trans (heap_alloc_new V _)
theorem zrowD {V w : World} {t : TypeId} (hb : Below (V.alloc (.cells #[.int .i64 0, .int .i64 0, .slice none 0 0] t)).drew.heap.size (V.alloc (.cells #[.int .i64 0, .int .i64 0, .slice none 0 0] t)).drew w) : w.heap[V.heap.size]? = some (.cells #[.int .i64 0, .int .i64 0, .slice none 0 0] t (0, 0)) :=
  (hb.block V.heap.size (by simp)).trans (heap_alloc_new V _)
theorem FBx.put3 {w : World} {p : Nat} {t : TypeId} (hk : w.heap[p]? = some (.cells #[.int .i64 0, .int .i64 0, .slice none 0 0] t (0, 0))) (r s : Int) (A : Option Addr) (n c : Nat) :
    FBx (((w.setCell ⟨p, 0, none⟩ (.int .i64 r)).setCell ⟨p, 1, none⟩ (.int .i64 s)).setCell ⟨p, 2, none⟩ (.slice A n c)) p r s A n c := by
  have h0 := heap_setCell_same w p 0 _ t (.int .i64 r) hk
  have h1 := heap_setCell_same _ p 1 _ t (.int .i64 s) h0
  have h2 := heap_setCell_same _ p 2 _ t (.slice A n c) h1
  have h3 : (((w.setCell ⟨p, 0, none⟩ (.int .i64 r)).setCell ⟨p, 1, none⟩ (.int .i64 s)).setCell ⟨p, 2, none⟩ (.slice A n c)).heap[p]? = some (.cells #[.int .i64 r, .int .i64 s, .slice A n c] t (0, 0)) := by simpa using h2
  exact ⟨(cell_of_row _ p 0 _ t (0, 0) h3).trans rfl, (cell_of_row _ p 1 _ t (0, 0) h3).trans rfl, (cell_of_row _ p 2 _ t (0, 0) h3).trans rfl⟩
theorem FBx.other {w : World} {p g : Nat} {r s : Int} {A : Option Addr} {n c : Nat} (h : FBx w p r s A n c) (hp : p ≠ g) (o : Nat) (u : Value) : FBx (w.setCell ⟨g, o, none⟩ u) p r s A n c :=
  ⟨(World.cell?_of_block (a := ⟨p, _, none⟩) (Below.heap_setCell w ⟨g, o, none⟩ u p hp)).trans h.c0, (World.cell?_of_block (a := ⟨p, _, none⟩) (Below.heap_setCell w ⟨g, o, none⟩ u p hp)).trans h.c1, (World.cell?_of_block (a := ⟨p, _, none⟩) (Below.heap_setCell w ⟨g, o, none⟩ u p hp)).trans h.c2⟩
theorem OwnI.put3 {w : World} {g p : Nat} {t : TypeId} {ns : List Int} (h : OwnI w g t ns) (hp : g ≠ p) (u v x : Value) : OwnI (((w.setCell ⟨p, 0, none⟩ u).setCell ⟨p, 1, none⟩ v).setCell ⟨p, 2, none⟩ x) g t ns :=
  ((h.other (p := ⟨p, 0, none⟩) hp u).other (p := ⟨p, 1, none⟩) hp v).other (p := ⟨p, 2, none⟩) hp x
theorem bl_put3 {w a : World} {p : Nat} (h : Below w.heap.size w a) (hp : w.heap.size ≤ p) (u v x : Value) : Below w.heap.size w (((a.setCell ⟨p, 0, none⟩ u).setCell ⟨p, 1, none⟩ v).setCell ⟨p, 2, none⟩ x) :=
  bl_set (bl_set (bl_set h _ _ hp _) _ _ hp _) _ _ hp _
theorem bl_undrew {X wd : World} (h : Below X.drew.heap.size X.drew wd) : Below X.heap.size X wd := ⟨h.os, h.tape, h.output, h.size, h.block⟩
/-- The copy: its box at p, its masses at g. -/
structure CopyAt (w1 wx : World) (p g c : Nat) (r s : Int) (n : Nat) (ns : List Int) : Prop where
  box : FBx wx p r s (some ⟨g, 0, none⟩) n c
  row : OwnI wx g 2 ns
  hp : w1.heap.size ≤ p
  hg : w1.heap.size ≤ g
  ne : p ≠ g
  below : Below w1.heap.size w1 wx
theorem CopyAt.lt {w1 wx : World} {p g c : Nat} {r s : Int} {n : Nat} {ns : List Int} (h : CopyAt w1 wx p g c r s n ns) : p < wx.heap.size ∧ g < wx.heap.size := ⟨h.box.lt, h.row.lt⟩
theorem CopyAt.step {w1 wx : World} {p g c : Nat} {r s : Int} {n : Nat} {ns : List Int} (h : CopyAt w1 wx p g c r s n ns) (k : Nat) (x : Int) (hk : k < ns.length) : CopyAt w1 (wx.setCell ⟨g, k, none⟩ (.int .i64 x)) p g c r s n (ns.set k x) :=
  ⟨h.box.other h.ne _ _, h.row.store k x hk, h.hp, h.hg, h.ne, bl_set h.below _ _ h.hg _⟩
theorem CopyAt.below' {w1 wx wy : World} {p g c : Nat} {r s : Int} {n : Nat} {ns : List Int} (h : CopyAt w1 wx p g c r s n ns) (hb : Below wx.heap.size wx wy) : CopyAt w1 wy p g c r s n ns :=
  ⟨h.box.below hb, h.row.below hb, h.hp, h.hg, h.ne, bl_trans h.below hb⟩
/-- One way to it: the masses first, the box behind them. -/
theorem CopyAt.one {w1 wd : World} {g c : Nat} {r s : Int} {ns : List Int} (hb : Below w1.heap.size w1 wd) (hg : w1.heap.size ≤ g) (ho : OwnI wd g 2 ns) (t : TypeId) : CopyAt w1 (wd.alloc (.cells #[.int .i64 r, .int .i64 s, .slice (some ⟨g, 0, none⟩) ns.length c] t)) wd.heap.size g c r s ns.length ns :=
  ⟨FBx.new wd t r s _ _ _, ho.below (bl_alloc (Below.refl _ _) _), hb.size, hg, Nat.ne_of_gt ho.lt, bl_alloc hb _⟩
/-- The other way: the box first. -/
theorem CopyAt.two {w1 V wd : World} {g c p : Nat} {r s : Int} {ns : List Int} {t : TypeId} (hV : Below w1.heap.size w1 V) (hb : Below (V.alloc (.cells #[.int .i64 0, .int .i64 0, .slice none 0 0] t)).heap.size (V.alloc (.cells #[.int .i64 0, .int .i64 0, .slice none 0 0] t)) wd) (hg : (V.alloc (.cells #[.int .i64 0, .int .i64 0, .slice none 0 0] t)).heap.size ≤ g) (ho : OwnI wd g 2 ns) (hp : p = V.heap.size) : CopyAt w1 (((wd.setCell ⟨p, 0, none⟩ (.int .i64 r)).setCell ⟨p, 1, none⟩ (.int .i64 s)).setCell ⟨p, 2, none⟩ (.slice (some ⟨g, 0, none⟩) ns.length c)) p g c r s ns.length ns := by
  subst hp
  have hg' : V.heap.size < g := by have := hg; simp at this; omega
  exact ⟨FBx.put3 (zrow hb) _ _ _ _ _, ho.put3 (Nat.ne_of_gt hg') _ _ _, hV.size, Nat.le_of_lt (Nat.lt_of_le_of_lt hV.size hg'), Nat.ne_of_lt hg', bl_put3 (bl_trans (bl_alloc hV _) hb) hV.size _ _ _⟩
set_option maxRecDepth 20000 in
set_option maxHeartbeats 4000000 in
theorem specOver_any (r s m : Int) (A : Option Addr) (c : Nat) (ns : List Int) (w : World) (hr : RdI w A ns) (hn : ns.length ≤ 1048576) :
    Calls Try.prog 5 #[.agg #[.int .i64 r, .int .i64 s, .slice A ns.length c], .int .i64 m] w (GivesFC w (overR r s ns m) (overS r s ns m) (overV r s ns m) (overC r s ns m)) := by
  have hb0 := bl_alloc (bl_alloc (Below.refl w.heap.size w) (.cells #[.int .i64 r, .int .i64 s, .slice A ns.length c] 26)) (.cells #[.int .i64 0, .int .i64 0, .slice none 0 0] 26)
  have HX0 := Lib.hid ((FBx.new w 26 r s A ns.length c).below (bl_alloc (Below.refl _ _) (.cells #[.int .i64 0, .int .i64 0, .slice none 0 0] 26)))
  have HR0 := Lib.hid (hr.below hb0)
  have HB0 := Lib.hid hb0
  have ep : w.heap.size + 1 = (w.alloc (.cells #[.int .i64 r, .int .i64 s, .slice A ns.length c] 26)).heap.size := by simp
  have HEP := Lib.hid ep
  clear hb0 ep hr
  go_enter Try.func5, Try.ntmps5
  go_wp2_with fail
  refine (l06Ok_any _ r s A c ns _ HX0.out HR0.out hn).mono ?_
  rintro e w1 ⟨rfl, hb1⟩
  have HB1 := Lib.hid hb1
  have HX1 := Lib.hid (HX0.out.below hb1)
  have HR1 := Lib.hid (HR0.out.below hb1)
  have hw1 : w.heap.size + 1 < w1.heap.size := by have := hb1.size; simp at this; omega
  clear hb1
  rcases h : okF r s ns with _ | _
  · have F := Lib.hid (over_1 h m)
    obtain ⟨z0, z1, z2, f0, f1, f2⟩ := FZ.of HEP.out HB1.out
    clear h
    go_wp2_with fail
    refine bodyPost_ret (v := .tuple #[.agg #[.int .i64 0, .int .i64 0, .slice none 0 0], .int .i64 1]) (by simp [*, results, Try.results5, go_sem]) rfl ?_
    exact GivesFC.no F.out (bl_put3 (bl_trans HB0.out HB1.out) (by omega) _ _ _)
  rcases hm : inB m 0 1000000 with _ | _
  · have F := Lib.hid (over_2 h hm)
    obtain ⟨z0, z1, z2, f0, f1, f2⟩ := FZ.of HEP.out HB1.out
    clear h
    go_wp2_with (first | (go_at_call 23; refine (l00In_any _ _ _ _).mono ?_; rintro e w' ⟨rfl, rfl⟩) | (go_at_call 13; go_in))
    refine bodyPost_ret (v := .tuple #[.agg #[.int .i64 0, .int .i64 0, .slice none 0 0], .int .i64 2]) (by simp [*, results, Try.results5, go_sem]) rfl ?_
    exact GivesFC.no F.out (bl_put3 (bl_trans HB0.out HB1.out) (by omega) _ _ _)
  obtain ⟨i1, i2, i3, i4, hlen, h64, hall⟩ := okF_yes h
  obtain ⟨m0, m1⟩ := inB_yes hm
  have hpos : 0 < ns.length := by
    have hq : 1 * 1 ≤ r * s := Int.mul_le_mul i1 i3 (by omega) (by omega)
    omega
  obtain ⟨g0, o0, rfl, _⟩ := HR1.out.at_ 0 hpos
  have HALL := Lib.hid hall
  have HH := Lib.hid h
  have HM := Lib.hid hm
  have q0 : ∀ w' : World, Below w1.heap.size w1 w' → w'.cell? ⟨w.heap.size, 0, none⟩ = some (.int .i64 r) := fun w' k => (HX1.out.below k).c0
  have q1 : ∀ w' : World, Below w1.heap.size w1 w' → w'.cell? ⟨w.heap.size, 1, none⟩ = some (.int .i64 s) := fun w' k => (HX1.out.below k).c1
  have q2 : ∀ w' : World, Below w1.heap.size w1 w' → w'.cell? ⟨w.heap.size, 2, none⟩ = some (.slice (some ⟨g0, o0, none⟩) ns.length c) := fun w' k => (HX1.out.below k).c2
  have HOWN : Hid (∀ W : World, Below w1.heap.size w1 W → Calls Try.prog 14 #[.slice (some ⟨g0, o0, none⟩) ns.length c] W (GivesN W ns)) := Lib.hid fun W k => l00Own_any g0 o0 c ns W (HR1.out.below k) hn hpos
  clear i1 i2 i3 i4 hlen hall h
  go_upto_region 5 with (first | (go_at_call 23; refine (l00In_any _ _ _ _).mono ?_; rintro e w' ⟨rfl, rfl⟩) | (go_at_call 13; go_in))
  go_cut [6] (fun s6 wx => ∃ p g c', s6 = .pointer (some ⟨p, 0, none⟩) ∧ ns.length ≤ c' ∧ CopyAt w1 wx p g c' r s ns.length ns)
  case first =>
    go_region_held3 (fun w' => Below w1.heap.size w1 w') (first | (with_reducible assumption) | (with_reducible exact (Below.refl _ _).drew) | (with_reducible exact (bl_alloc (Below.refl _ _) _).drew) | (with_reducible exact bl_alloc (by assumption) _) | (with_reducible exact bl_put3 (by assumption) (by first | exact Nat.le_refl _ | assumption) _ _ _))
      (first
        | (go_at_call 14; (with_reducible refine (HOWN.out _ (by assumption)).mono ?_); rintro e wd ⟨g, c', rfl, hc', hg, ho, hbd⟩; have hSd : Below w1.heap.size w1 wd := bl_trans (by with_reducible assumption) hbd; have hsz := hSd.size; have HC' := Lib.hid hc'; have HG := Lib.hid hg; have HO := Lib.hid ho; have HBD := Lib.hid hbd; clear hc' hg ho; first | ((with_reducible have hz := zrowD hbd); have hz2 := FZ.row hz; clear hz; obtain ⟨z0, z1, z2, f0, f1, f2⟩ := hz2) | ((with_reducible have hz := zrow hbd); have hz2 := FZ.row hz; clear hz; obtain ⟨z0, z1, z2, f0, f1, f2⟩ := hz2) | skip))
    all_goals
      go_wp2_with fail
      go_meet
      first
        | exact ⟨_, _, _, rfl, HC'.out, CopyAt.one (bl_undrew HBD.out) HG.out HO.out _⟩
        | exact ⟨_, _, _, rfl, HC'.out, CopyAt.two (Below.refl _ _) (bl_undrew HBD.out) HG.out HO.out rfl⟩
  case rest =>
    obtain ⟨p, g, c', rfl, hc', hS⟩ := hcut
    clear q0 q1 q2
    have HC' := Lib.hid hc'
    have H0 := Lib.hid (mixM_0 ns m)
    rw [← H0.out] at hS
    have HS := Lib.hid hS
    rw [H0.out] at hS
    clear hS hc'
    rename World => w2
    go_wp2_with fail
    go_loopw [7] (fun i wr => ∃ k : Nat, k ≤ ns.length ∧ i = .int .i64 k ∧ Hid (CopyAt w1 wr p g c' r s ns.length (mixM ns m k))) (fun i _ => ns.length - (intOf i).toNat)
    case atStart => exact ⟨0, Nat.zero_le _, rfl, HS⟩
    case round =>
      obtain ⟨k, hk, rfl, HK⟩ := hrel
      obtain ⟨b0, b1, b2⟩ := HK.out.box.fb
      by_cases hlt : k < ns.length
      · have hx := HK.out.row.at_ (mixM_at m hlt)
        have f0 := HK.out.row.frozen k
        obtain ⟨n0, n1⟩ := okM_bd (List.all_eq_true.1 HALL.out _ (List.getElem_mem hlt))
        have HN := Lib.hid (mixM_s m hlt)
        have hkl : k < (mixM ns m k).length := by rw [mixM_len]; exact hlt
        have HKL := Lib.hid hkl
        clear hkl
        go_wp2_with fail
        clear b0 b1 b2 hx f0
        go_roundw
        case rel => exact ⟨k + 1, by omega, by go_num, Lib.hid (by rw [HN.out]; exact HK.out.step k _ HKL.out)⟩
        case measure => simp [intOf]; omega
      · obtain rfl : k = ns.length := by omega
        have HE := Lib.hid HK.out
        have HLN := Lib.hid (show (mixM ns m ns.length).length = ns.length from mixM_len _ _ _)
        have HMX := Lib.hid (mixM_all ns m)
        have HCL := Lib.hid (l06Masses_any p r s (some ⟨g, 0, none⟩) c' (mixM ns m ns.length) wr (by rw [HLN.out]; exact HE.out.box) HE.out.row.rd (by rw [HLN.out]; exact hn))
        have HB2 := Lib.hid (bl_trans HB1.out HE.out.below)
        rcases ho : (ns.map (· + m)).all okM with _ | _
        · have F := Lib.hid (over_6 HH.out HM.out ho)
          rw [HMX.out, ho] at HCL
          obtain ⟨z0, z1, z2, f0, f1, f2⟩ := FZ.of HEP.out HB2.out
          clear ho
          go_wp2_with fail
          refine HCL.out.mono ?_
          rintro e w' ⟨rfl, rfl⟩
          go_wp2_with fail
          refine bodyPost_ret (v := .tuple #[.agg #[.int .i64 0, .int .i64 0, .slice none 0 0], .int .i64 6]) (by simp [*, results, Try.results5, go_sem]) rfl ?_
          exact GivesFC.no F.out (bl_put3 (bl_trans HB0.out HB2.out) (by omega) _ _ _)
        · have F := Lib.hid (over_0 HH.out HM.out ho)
          rw [HMX.out, ho] at HCL
          obtain ⟨z0, z1, z2, f0, f1, f2⟩ := FZ.of HEP.out HB2.out
          clear ho
          go_wp2_with fail
          refine HCL.out.mono ?_
          rintro e w' ⟨rfl, rfl⟩
          go_wp2_with fail
          refine bodyPost_ret (v := .tuple #[.agg #[.int .i64 r, .int .i64 s, .slice (some ⟨g, 0, none⟩) ns.length c'], .int .i64 0]) (by simp [*, results, Try.results5, go_sem]) rfl ?_
          rw [F.out.1, F.out.2.1, F.out.2.2.1, F.out.2.2.2]
          have hrow := HE.out.row
          rw [HMX.out] at hrow
          have hgw := HE.out.hg
          exact ⟨some ⟨g, 0, none⟩, c', by rw [List.length_map], by rw [List.length_map]; exact HC'.out, .inr ⟨g, rfl, by omega, hrow.put3 (by omega) _ _ _⟩, bl_put3 (bl_trans HB0.out HB2.out) (by omega) _ _ _⟩
set_option maxRecDepth 20000 in
set_option maxHeartbeats 4000000 in
theorem implOver_any (r s m : Int) (A : Option Addr) (c : Nat) (ns : List Int) (w : World) (hr : RdI w A ns) (hn : ns.length ≤ 1048576) :
    Calls Try.prog 7 #[.agg #[.int .i64 r, .int .i64 s, .slice A ns.length c], .int .i64 m] w (GivesFC w (overR r s ns m) (overS r s ns m) (overV r s ns m) (overC r s ns m)) := by
  have hb0 := bl_alloc (bl_alloc (Below.refl w.heap.size w) (.cells #[.int .i64 r, .int .i64 s, .slice A ns.length c] 26)) (.cells #[.int .i64 0, .int .i64 0, .slice none 0 0] 26)
  have HX0 := Lib.hid ((FBx.new w 26 r s A ns.length c).below (bl_alloc (Below.refl _ _) (.cells #[.int .i64 0, .int .i64 0, .slice none 0 0] 26)))
  have HR0 := Lib.hid (hr.below hb0)
  have HB0 := Lib.hid hb0
  have ep : w.heap.size + 1 = (w.alloc (.cells #[.int .i64 r, .int .i64 s, .slice A ns.length c] 26)).heap.size := by simp
  have HEP := Lib.hid ep
  clear hb0 ep hr
  go_enter Try.func7, Try.ntmps7
  go_wp2_with fail
  refine (implValidF_any r s A c ns _ HR0.out hn).mono ?_
  rintro e w1 ⟨rfl, hb1⟩
  have HB1 := Lib.hid hb1
  have HX1 := Lib.hid (HX0.out.below hb1)
  have HR1 := Lib.hid (HR0.out.below hb1)
  have hw1 : w.heap.size + 1 < w1.heap.size := by have := hb1.size; simp at this; omega
  clear hb1
  rcases h : okF r s ns with _ | _
  · have F := Lib.hid (over_1 h m)
    obtain ⟨z0, z1, z2, f0, f1, f2⟩ := FZ.of HEP.out HB1.out
    clear h
    go_wp2_with fail
    refine bodyPost_ret (v := .tuple #[.agg #[.int .i64 0, .int .i64 0, .slice none 0 0], .int .i64 1]) (by simp [*, results, Try.results7, go_sem]) rfl ?_
    exact GivesFC.no F.out (bl_put3 (bl_trans HB0.out HB1.out) (by omega) _ _ _)
  rcases hm : inB m 0 1000000 with _ | _
  · have F := Lib.hid (over_2 h hm)
    obtain ⟨z0, z1, z2, f0, f1, f2⟩ := FZ.of HEP.out HB1.out
    clear h
    go_wp2_with (go_at_call 18; refine (within_any _ _ _ _).mono ?_; rintro e w' ⟨rfl, rfl⟩)
    refine bodyPost_ret (v := .tuple #[.agg #[.int .i64 0, .int .i64 0, .slice none 0 0], .int .i64 2]) (by simp [*, results, Try.results7, go_sem]) rfl ?_
    exact GivesFC.no F.out (bl_put3 (bl_trans HB0.out HB1.out) (by omega) _ _ _)
  obtain ⟨i1, i2, i3, i4, hlen, h64, hall⟩ := okF_yes h
  obtain ⟨m0, m1⟩ := inB_yes hm
  have hpos : 0 < ns.length := by
    have hq : 1 * 1 ≤ r * s := Int.mul_le_mul i1 i3 (by omega) (by omega)
    omega
  obtain ⟨g0, o0, rfl, _⟩ := HR1.out.at_ 0 hpos
  have HALL := Lib.hid hall
  have HH := Lib.hid h
  have HM := Lib.hid hm
  have q0 : ∀ w' : World, Below w1.heap.size w1 w' → w'.cell? ⟨w.heap.size, 0, none⟩ = some (.int .i64 r) := fun w' k => (HX1.out.below k).c0
  have q1 : ∀ w' : World, Below w1.heap.size w1 w' → w'.cell? ⟨w.heap.size, 1, none⟩ = some (.int .i64 s) := fun w' k => (HX1.out.below k).c1
  have q2 : ∀ w' : World, Below w1.heap.size w1 w' → w'.cell? ⟨w.heap.size, 2, none⟩ = some (.slice (some ⟨g0, o0, none⟩) ns.length c) := fun w' k => (HX1.out.below k).c2
  have HOWN : Hid (∀ W : World, Below w1.heap.size w1 W → Calls Try.prog 19 #[.slice (some ⟨g0, o0, none⟩) ns.length c] W (GivesN W ns)) := Lib.hid fun W k => cloneI_any g0 o0 c ns W (HR1.out.below k) hn hpos
  clear i1 i2 i3 i4 hlen hall h
  go_upto_region 5 with (go_at_call 18; refine (within_any _ _ _ _).mono ?_; rintro e w' ⟨rfl, rfl⟩)
  go_cut [6] (fun s6 wx => ∃ p g c', s6 = .pointer (some ⟨p, 0, none⟩) ∧ ns.length ≤ c' ∧ CopyAt w1 wx p g c' r s ns.length ns)
  case first =>
    go_region_held3 (fun w' => Below w1.heap.size w1 w') (first | (with_reducible assumption) | (with_reducible exact (Below.refl _ _).drew) | (with_reducible exact (bl_alloc (Below.refl _ _) _).drew) | (with_reducible exact bl_alloc (by assumption) _) | (with_reducible exact bl_put3 (by assumption) (by first | exact Nat.le_refl _ | assumption) _ _ _))
      (first
        | (go_at_call 19; (with_reducible refine (HOWN.out _ (by assumption)).mono ?_); rintro e wd ⟨g, c', rfl, hc', hg, ho, hbd⟩; have hSd : Below w1.heap.size w1 wd := bl_trans (by with_reducible assumption) hbd; have hsz := hSd.size; have HC' := Lib.hid hc'; have HG := Lib.hid hg; have HO := Lib.hid ho; have HBD := Lib.hid hbd; clear hc' hg ho; first | ((with_reducible have hz := zrowD hbd); have hz2 := FZ.row hz; clear hz; obtain ⟨z0, z1, z2, f0, f1, f2⟩ := hz2) | ((with_reducible have hz := zrow hbd); have hz2 := FZ.row hz; clear hz; obtain ⟨z0, z1, z2, f0, f1, f2⟩ := hz2) | skip))
    all_goals
      go_wp2_with fail
      go_meet
      first
        | exact ⟨_, _, _, rfl, HC'.out, CopyAt.one (bl_undrew HBD.out) HG.out HO.out _⟩
        | exact ⟨_, _, _, rfl, HC'.out, CopyAt.two (Below.refl _ _) (bl_undrew HBD.out) HG.out HO.out rfl⟩
  case rest =>
    obtain ⟨p, g, c', rfl, hc', hS⟩ := hcut
    clear q0 q1 q2
    have HC' := Lib.hid hc'
    have H0 := Lib.hid (mixM_0 ns m)
    rw [← H0.out] at hS
    have HS := Lib.hid hS
    rw [H0.out] at hS
    obtain ⟨b0, b1, b2⟩ := hS.box.fb
    clear hS hc'
    rename World => w2
    go_wp2_with fail
    clear b0 b1 b2
    go_loopw [29] (fun i wr => ∃ k : Nat, k ≤ ns.length ∧ i = .int .i64 k ∧ Hid (CopyAt w1 wr p g c' r s ns.length (mixM ns m k))) (fun i _ => ns.length - (intOf i).toNat)
    case atStart => exact ⟨0, Nat.zero_le _, rfl, HS⟩
    case round =>
      obtain ⟨k, hk, rfl, HK⟩ := hrel
      obtain ⟨b0, b1, b2⟩ := HK.out.box.fb
      by_cases hlt : k < ns.length
      · have hx := HK.out.row.at_ (mixM_at m hlt)
        have f0 := HK.out.row.frozen k
        obtain ⟨n0, n1⟩ := okM_bd (List.all_eq_true.1 HALL.out _ (List.getElem_mem hlt))
        have HN := Lib.hid (mixM_s m hlt)
        have hkl : k < (mixM ns m k).length := by rw [mixM_len]; exact hlt
        have HKL := Lib.hid hkl
        clear hkl
        go_wp2_with fail
        clear b0 b1 b2 hx f0
        go_roundw
        case rel => exact ⟨k + 1, by omega, by go_num, Lib.hid (by rw [HN.out]; exact HK.out.step k _ HKL.out)⟩
        case measure => simp [intOf]; omega
      · obtain rfl : k = ns.length := by omega
        have HE := Lib.hid HK.out
        have HLN := Lib.hid (show (mixM ns m ns.length).length = ns.length from mixM_len _ _ _)
        have HMX := Lib.hid (mixM_all ns m)
        have HCL := Lib.hid (implValidF_any r s (some ⟨g, 0, none⟩) c' (mixM ns m ns.length) wr HE.out.row.rd (by rw [HLN.out]; exact hn))
        have HB2 := Lib.hid (bl_trans HB1.out HE.out.below)
        rcases ho : (ns.map (· + m)).all okM with _ | _
        · have F := Lib.hid (over_6 HH.out HM.out ho)
          rw [HLN.out, HMX.out, okF_map m HH.out, ho] at HCL
          clear ho
          go_wp2_with fail
          refine HCL.out.mono ?_
          rintro e w3 ⟨rfl, hb3⟩
          have HB3 := Lib.hid (bl_trans HB2.out hb3)
          have HE3 := Lib.hid (HE.out.below' hb3)
          obtain ⟨z0, z1, z2, f0, f1, f2⟩ := FZ.of HEP.out HB3.out
          obtain ⟨b0, b1, b2⟩ := HE3.out.box.fb
          clear hb3
          go_wp2_with fail
          refine bodyPost_ret (v := .tuple #[.agg #[.int .i64 0, .int .i64 0, .slice none 0 0], .int .i64 6]) (by simp [*, results, Try.results7, go_sem]) rfl ?_
          exact GivesFC.no F.out (bl_put3 (bl_trans HB0.out HB3.out) (by omega) _ _ _)
        · have F := Lib.hid (over_0 HH.out HM.out ho)
          rw [HLN.out, HMX.out, okF_map m HH.out, ho] at HCL
          clear ho
          go_wp2_with fail
          refine HCL.out.mono ?_
          rintro e w3 ⟨rfl, hb3⟩
          have HB3 := Lib.hid (bl_trans HB2.out hb3)
          have HE3 := Lib.hid (HE.out.below' hb3)
          obtain ⟨z0, z1, z2, f0, f1, f2⟩ := FZ.of HEP.out HB3.out
          obtain ⟨b0, b1, b2⟩ := HE3.out.box.fb
          clear hb3
          go_wp2_with fail
          refine bodyPost_ret (v := .tuple #[.agg #[.int .i64 r, .int .i64 s, .slice (some ⟨g, 0, none⟩) ns.length c'], .int .i64 0]) (by simp [*, results, Try.results7, go_sem]) rfl ?_
          rw [F.out.1, F.out.2.1, F.out.2.2.1, F.out.2.2.2]
          have hrow := HE3.out.row
          rw [HMX.out] at hrow
          have hgw := HE.out.hg
          exact ⟨some ⟨g, 0, none⟩, c', by rw [List.length_map], by rw [List.length_map]; exact HC'.out, .inr ⟨g, rfl, by omega, hrow.put3 (by omega) _ _ _⟩, bl_put3 (bl_trans HB0.out HB3.out) (by omega) _ _ _⟩
end Go.Proofs.Ytdbimgbekfiedaa
