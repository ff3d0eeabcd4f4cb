/- JoinLayers: the contract of the program's function. No condition. -/
import Derived.Test.YthlandlpjhdbdaaJoinA
import Derived.Laws.Small
namespace Go.Proofs.Ythlandlpjhdbdaa
open Go.ChangeShapes Go.WideShapes Go.ChangeAt Go.RowKit Go.Joins Go.Deep
set_option linter.unusedVariables false
def Z7 (w : World) (r : Nat) (t : TypeId) : Prop := w.heap[r]? = some (.cells #[.int .i64 0, .int .i64 0, .int .i64 0, .int .i64 0, .int .i64 0, .int .i64 0, .int .i64 0] t (0, 0)) ∧
    w.cell? ⟨r, 0, none⟩ = some (.int .i64 0) ∧ w.cell? ⟨r, 1, none⟩ = some (.int .i64 0) ∧ w.cell? ⟨r, 2, none⟩ = some (.int .i64 0) ∧ w.cell? ⟨r, 3, none⟩ = some (.int .i64 0) ∧ w.cell? ⟨r, 4, none⟩ = some (.int .i64 0) ∧ w.cell? ⟨r, 5, none⟩ = some (.int .i64 0) ∧ w.cell? ⟨r, 6, none⟩ = some (.int .i64 0) ∧
    w.frozen? ⟨r, 0, none⟩ = false ∧ w.frozen? ⟨r, 1, none⟩ = false ∧ w.frozen? ⟨r, 2, none⟩ = false ∧ w.frozen? ⟨r, 3, none⟩ = false ∧ w.frozen? ⟨r, 4, none⟩ = false ∧ w.frozen? ⟨r, 5, none⟩ = false ∧ w.frozen? ⟨r, 6, none⟩ = false
theorem row7 {w : World} {r : Nat} {t : TypeId} (hk : w.heap[r]? = some (.cells #[.int .i64 0, .int .i64 0, .int .i64 0, .int .i64 0, .int .i64 0, .int .i64 0, .int .i64 0] t (0, 0))) : Z7 w r t :=
  ⟨hk, (cell_of_row _ _ _ _ _ (0, 0) hk).trans rfl, (cell_of_row _ _ _ _ _ (0, 0) hk).trans rfl, (cell_of_row _ _ _ _ _ (0, 0) hk).trans rfl, (cell_of_row _ _ _ _ _ (0, 0) hk).trans rfl, (cell_of_row _ _ _ _ _ (0, 0) hk).trans rfl, (cell_of_row _ _ _ _ _ (0, 0) hk).trans rfl, (cell_of_row _ _ _ _ _ (0, 0) hk).trans rfl,
    frozen_of_row w r 0 _ _ hk, frozen_of_row w r 1 _ _ hk, frozen_of_row w r 2 _ _ hk, frozen_of_row w r 3 _ _ hk, frozen_of_row w r 4 _ _ hk, frozen_of_row w r 5 _ _ hk, frozen_of_row w r 6 _ _ hk⟩
theorem new7 {V w : World} {t : TypeId} (hb : Below (V.alloc (.cells #[.int .i64 0, .int .i64 0, .int .i64 0, .int .i64 0, .int .i64 0, .int .i64 0, .int .i64 0] t)).heap.size (V.alloc (.cells #[.int .i64 0, .int .i64 0, .int .i64 0, .int .i64 0, .int .i64 0, .int .i64 0, .int .i64 0] t)) w) : Z7 w V.heap.size t :=
  row7 ((hb.block V.heap.size (by simp)).trans (heap_alloc_new V _))
theorem undrew {X wd : World} (h : Below X.drew.heap.size X.drew wd) : Below X.heap.size X wd := ⟨h.os, h.tape, h.output, h.size, h.block⟩
theorem old7 {V w : World} {r : Nat} {t : TypeId} (hk : V.heap[r]? = some (.cells #[.int .i64 0, .int .i64 0, .int .i64 0, .int .i64 0, .int .i64 0, .int .i64 0, .int .i64 0] t (0, 0))) (hb : Below V.heap.size V w) : Z7 w r t :=
  row7 ((hb.block r (Array.getElem?_eq_some_iff.1 hk).1).trans hk)
theorem bl_put7 {w a : World} {r : Nat} (h : Below w.heap.size w a) (hr : w.heap.size ≤ r) (v0 v1 v2 v3 v4 v5 v6 : Value) :
    Below w.heap.size w (((((((a.setCell ⟨r, 0, none⟩ v0).setCell ⟨r, 1, none⟩ v1).setCell ⟨r, 2, none⟩ v2).setCell ⟨r, 3, none⟩ v3).setCell ⟨r, 4, none⟩ v4).setCell ⟨r, 5, none⟩ v5).setCell ⟨r, 6, none⟩ v6) :=
  bl_set (bl_set (bl_set (bl_set (bl_set (bl_set (bl_set h _ _ hr _) _ _ hr _) _ _ hr _) _ _ hr _) _ _ hr _) _ _ hr _) _ _ hr _
section
variable {P : Program} {l : List Oper} {Q : Exit → Act → World → Prop} {md : Region.Mode} {S : World → Prop}
theorem takeL {i : Nat} {oi : Oper} {v : Value} {fuel : Nat} {listed : Array Bool} {a : Act} {w : World} (hi : l[i]? = some oi)
    (hs : Region.noSelect l.toArray = true) (hf : Region.free md l.toArray listed i = true) (hr : (Region.ready md l.toArray listed).contains i = true)
    (hQ : ∀ c a w, Q (.panic c) (a.put oi.dst v) w → Q (.panic c) a w) (hy : YieldsIf P l.toArray S oi v a) (hS : S w)
    (h : wpAnyH P md l.toArray Q S fuel (listed.setIfInBounds i true) (a.put oi.dst v) w) : wpAnyH P md l.toArray Q S (fuel + 1) listed a w :=
  wpAnyH_take (by simpa using hi) hs hf hr hQ hy hS h
theorem consL {fuel : Nat} {listed : Array Bool} {a : Act} {w : World} {i : Nat} {o : Oper} {rs : List Nat} (ho : l[i]? = some o)
    (h : ∀ K' : Act → World → Prop, Shut (∀ a w, S w → (S w → wpAnyH P md l.toArray Q S fuel (listed.setIfInBounds i true) a w) → K' a w) → if Region.wanted o (yielded l.toArray a.tmps) = true then Oper.wp P o a w K' Q else K' (a.put o.dst undef) w)
    (hs : AllReadyH P md l.toArray Q S fuel listed a w rs) : AllReadyH P md l.toArray Q S fuel listed a w (i :: rs) :=
  AllReadyH.cons (by simpa using ho) h hs
end
set_option maxRecDepth 100000 in
set_option maxHeartbeats 4000000 in
theorem implJoin_any (A : Option Addr) (c : Nat) (ls : List Ly) (k : Int) (w : World) (hr : RdL w A ls) (hn : ls.length ≤ 1048576) (hc : ls.length ≤ c) :
    Calls Try.prog 7 #[.slice A ls.length c, .int .i64 k] w (GivesLC w (joinR ls k) (joinC ls k)) := by
  have W0 : IntKind.i64.wrap ((ls.length : Int) - 2) = (ls.length : Int) - 2 := by rw [IntKind.wrap_i64]; omega
  rcases hok : okL ls with _ | _
  · have F := Lib.hid (join_1 hok k)
    go_enter Try.func7, Try.ntmps7
    go_wp2_with (go_at_call 16; refine (validProfile_any A c ls _ hr hn).mono ?_; rintro e w1 ⟨rfl, hb1⟩)
    go_ret2
    exact ⟨_, by rw [F.out.2]; rfl, by rw [F.out.1]; exact OwnS.nil _ _, hb1⟩
  rcases hin : inB k 0 ((ls.length : Int) - 2) with _ | _
  · have F := Lib.hid (join_2 hok hin)
    go_enter Try.func7, Try.ntmps7
    go_wp2_with (first | (go_at_call 16; refine (validProfile_any A c ls _ hr hn).mono ?_; rintro e w1 ⟨rfl, hb1⟩) | (go_at_call 17; refine (within_any _ _ _ _).mono ?_; rintro e w' ⟨rfl, rfl⟩))
    go_ret2
    exact ⟨_, by rw [F.out.2]; rfl, by rw [F.out.1]; exact OwnS.nil _ _, hb1⟩
  obtain ⟨k0, k1⟩ := inB_yes hin
  obtain ⟨m, rfl⟩ := Int.eq_ofNat_of_zero_le k0
  have hm : m + 1 < ls.length := by omega
  have V := VL.of_ok hok
  have h16' := V.len
  have bX := V.get m (by omega)
  have bY := V.get (m + 1) hm
  obtain ⟨g, o, rfl, hx⟩ := hr.at_ m (by omega)
  obtain ⟨g', o', hA, hy⟩ := hr.at_ (m + 1) hm
  injection hA with hA
  injection hA with hA1 hA2
  subst hA1 hA2
  have W1 : IntKind.i64.wrap ((m : Int) + 1) = ((m + 1 : Nat) : Int) := by rw [IntKind.wrap_i64]; push_cast; omega
  have HR := Lib.hid hr
  have HX := Lib.hid hx
  have HY := Lib.hid hy
  by_cases hf : ls[m].form = ls[m + 1].form
  · obtain ⟨⟨a0, a1⟩, ⟨b0, b1⟩, ⟨e0, e1⟩, ⟨f0, f1⟩⟩ := join_bd bX bY
    obtain ⟨i0, i1⟩ : 1 ≤ ls[m].ice ∧ ls[m].ice ≤ 1000000 := ⟨bX.i0, bX.i1⟩
    obtain ⟨j0, j1⟩ : 1 ≤ ls[m + 1].ice ∧ ls[m + 1].ice ≤ 1000000 := ⟨bY.i0, bY.i1⟩
    obtain ⟨u0, u1⟩ : 0 ≤ ls[m].water ∧ ls[m].water ≤ 1000000 := ⟨bX.w0, bX.w1⟩
    obtain ⟨v0, v1⟩ : 0 ≤ ls[m + 1].water ∧ ls[m + 1].water ≤ 1000000 := ⟨bY.w0, bY.w1⟩
    have hfb : (ls[m].form != ls[m + 1].form) = false := by simpa using hf
    have HF := Lib.hid hf
    have HLM := Lib.hid hm
    clear hf bX bY hx hy V
    have F5 := Lib.hid (fun h => join_5 HLM.out hok hin HF.out h)
    have F0 := Lib.hid (fun h => join_0 HLM.out hok hin HF.out h)
    generalize ls[m] = x at *
    generalize ls[m + 1] = y at *
    have W2 : IntKind.i64.wrap (x.ice + y.ice) = x.ice + y.ice := by rw [IntKind.wrap_i64]; omega
    have W3 : IntKind.i64.wrap (x.water + y.water) = x.water + y.water := by rw [IntKind.wrap_i64]; omega
    have W4 : IntKind.i64.wrap (x.ice * x.dens) = x.ice * x.dens := by rw [IntKind.wrap_i64]; omega
    have W5 : IntKind.i64.wrap (y.ice * y.dens) = y.ice * y.dens := by rw [IntKind.wrap_i64]; omega
    have W6 : IntKind.i64.wrap (x.ice * x.dens + y.ice * y.dens) = x.ice * x.dens + y.ice * y.dens := by rw [IntKind.wrap_i64]; omega
    have W7 : IntKind.i64.wrap (x.ice * x.deg) = x.ice * x.deg := by rw [IntKind.wrap_i64]; omega
    have W8 : IntKind.i64.wrap (y.ice * y.deg) = y.ice * y.deg := by rw [IntKind.wrap_i64]; omega
    have W9 : IntKind.i64.wrap (x.ice * x.deg + y.ice * y.deg) = x.ice * x.deg + y.ice * y.deg := by rw [IntKind.wrap_i64]; omega
    obtain ⟨D, hD⟩ : ∃ D, D = rdiv (x.ice * x.dens + y.ice * y.dens) (x.ice + y.ice) := ⟨_, rfl⟩
    obtain ⟨E, hE⟩ : ∃ E, E = rdiv (x.ice * x.deg + y.ice * y.deg) (x.ice + y.ice) := ⟨_, rfl⟩
    obtain ⟨M, hM⟩ : ∃ M, M = minI x.hard y.hard := ⟨_, rfl⟩
    obtain ⟨X, hX⟩ : ∃ X, X = maxI x.age y.age := ⟨_, rfl⟩
    have mn : (if y.hard < x.hard then y.hard else x.hard) = M := by rw [hM]; unfold minI; split <;> split <;> omega
    have mx : (if x.age < y.age then y.age else x.age) = X := by rw [hX]; unfold maxI; split <;> split <;> omega
    have HD : Hid (∀ W : World, Calls Try.prog 18 #[.int .i64 (x.ice * x.dens + y.ice * y.dens), .int .i64 (x.ice + y.ice)] W fun e w' => e = .returned (.int .i64 D) ∧ Below W.heap.size W w') := Lib.hid fun W => (divRound_any _ _ _ (by omega) (by omega) (by omega) (by omega) (by omega)).mono fun e w' h => ⟨by rw [hD]; exact h.1, by obtain ⟨_, n, rfl⟩ := h; exact bl_drewN (Below.refl _ _) n⟩
    have HE : Hid (∀ W : World, Calls Try.prog 18 #[.int .i64 (x.ice * x.deg + y.ice * y.deg), .int .i64 (x.ice + y.ice)] W fun e w' => e = .returned (.int .i64 E) ∧ Below W.heap.size W w') := Lib.hid fun W => (divRound_any _ _ _ (by omega) (by omega) (by omega) (by omega) (by omega)).mono fun e w' h => ⟨by rw [hE]; exact h.1, by obtain ⟨_, n, rfl⟩ := h; exact bl_drewN (Below.refl _ _) n⟩
    have HJ : Hid (joinF x y = ⟨x.form, x.ice + y.ice, x.water + y.water, D, E, M, X⟩) := by
      show _ = _
      unfold joinF
      rw [← hD, ← hE, ← hM, ← hX]
    clear hD hE hM hX a0 a1 b0 b1 e0 e1 f0 f1
    have MN := Lib.hid mn
    have MX := Lib.hid mx
    clear mn mx
    have HMIN : Hid (∀ W : World, (Builtin.min_ #[2, 2] 2 #[.int .i64 x.hard, .int .i64 y.hard]).run Try.prog W = .ok (.int .i64 M) W) := Lib.hid fun W => by rw [run_min_int2, MN.out]
    have HMAX : Hid (∀ W : World, (Builtin.max_ #[2, 2] 2 #[.int .i64 x.age, .int .i64 y.age]).run Try.prog W = .ok (.int .i64 X) W) := Lib.hid fun W => by rw [run_max_int2]; rw [show (if y.age > x.age then y.age else x.age) = X from MX.out]
    go_enter Try.func7, Try.ntmps7
    go_upto_region 5 with (first | (go_at_call 16; refine (validProfile_any _ c ls _ hr hn).mono ?_; rintro e wv ⟨rfl, hb1⟩; have hgv := (HX.out.below hb1 HX.out.lt).lt; obtain ⟨c0, c1, c2, c3, c4, c5, c6⟩ := HX.out.below hb1 HX.out.lt; obtain ⟨d0, d1, d2, d3, d4, d5, d6⟩ := HY.out.below hb1 HY.out.lt) | (go_at_call 17; refine (within_any _ _ _ _).mono ?_; rintro e w' ⟨rfl, rfl⟩))
    go_cut [6, 7] (fun s6 s7 wx => ∃ p q : Nat, s6 = .pointer (some ⟨p, 0, none⟩) ∧ s7 = .pointer (some ⟨q, 0, none⟩) ∧ LyAt wx p 0 x ∧ LyAt wx q 0 y ∧ Below w.heap.size w wx)
    case first =>
      go_region
      all_goals
        go_wp2_with fail
        go_meet
        first
          | exact ⟨_, _, rfl, rfl, (boxes2 wv 34 x y).1, (boxes2 wv 34 x y).2, bl_trans hb1 (bl_alloc (bl_alloc (Below.refl _ _) _) _).drew⟩
          | exact ⟨_, _, rfl, rfl, (boxes2 wv 34 y x).2, (boxes2 wv 34 y x).1, bl_trans hb1 (bl_alloc (bl_alloc (Below.refl _ _) _) _).drew⟩
    case rest =>
      obtain ⟨p, q, rfl, rfl, hL, hH, hbw⟩ := hcut
      clear c0 c1 c2 c3 c4 c5 c6 d0 d1 d2 d3 d4 d5 d6 hb1 hgv
      have hpl := hL.lt
      have hql := hH.lt
      have HL := Lib.hid hL
      have HH := Lib.hid hH
      have HBW := Lib.hid hbw
      obtain ⟨c0, c1, c2, c3, c4, c5, c6⟩ := hL.box
      obtain ⟨d0, d1, d2, d3, d4, d5, d6⟩ := hH.box
      clear hL hH hbw
      rename World => w1
      go_upto_region 9 with fail
      go_cut [9] (fun s9 wx => ∃ r : Nat, s9 = .pointer (some ⟨r, 0, none⟩) ∧ LyAt wx r 0 ⟨x.form, x.ice + y.ice, x.water + y.water, D, E, M, X⟩ ∧ Below w1.heap.size w1 wx)
      case first =>
        have hmin := HMIN.out
        have hmax := HMAX.out
        have rp0 : ∀ w' : World, Below w1.heap.size w1 w' → w'.cell? ⟨p, 0, none⟩ = some (.int .i64 x.form) := fun w' h => (World.cell?_of_block (a := ⟨p, _, none⟩) (h.block p hpl)).trans c0
        have rp1 : ∀ w' : World, Below w1.heap.size w1 w' → w'.cell? ⟨p, 1, none⟩ = some (.int .i64 x.ice) := fun w' h => (World.cell?_of_block (a := ⟨p, _, none⟩) (h.block p hpl)).trans c1
        have rp2 : ∀ w' : World, Below w1.heap.size w1 w' → w'.cell? ⟨p, 2, none⟩ = some (.int .i64 x.water) := fun w' h => (World.cell?_of_block (a := ⟨p, _, none⟩) (h.block p hpl)).trans c2
        have rp3 : ∀ w' : World, Below w1.heap.size w1 w' → w'.cell? ⟨p, 3, none⟩ = some (.int .i64 x.dens) := fun w' h => (World.cell?_of_block (a := ⟨p, _, none⟩) (h.block p hpl)).trans c3
        have rp4 : ∀ w' : World, Below w1.heap.size w1 w' → w'.cell? ⟨p, 4, none⟩ = some (.int .i64 x.deg) := fun w' h => (World.cell?_of_block (a := ⟨p, _, none⟩) (h.block p hpl)).trans c4
        have rp5 : ∀ w' : World, Below w1.heap.size w1 w' → w'.cell? ⟨p, 5, none⟩ = some (.int .i64 x.hard) := fun w' h => (World.cell?_of_block (a := ⟨p, _, none⟩) (h.block p hpl)).trans c5
        have rp6 : ∀ w' : World, Below w1.heap.size w1 w' → w'.cell? ⟨p, 6, none⟩ = some (.int .i64 x.age) := fun w' h => (World.cell?_of_block (a := ⟨p, _, none⟩) (h.block p hpl)).trans c6
        have rq0 : ∀ w' : World, Below w1.heap.size w1 w' → w'.cell? ⟨q, 0, none⟩ = some (.int .i64 y.form) := fun w' h => (World.cell?_of_block (a := ⟨q, _, none⟩) (h.block q hql)).trans d0
        have rq1 : ∀ w' : World, Below w1.heap.size w1 w' → w'.cell? ⟨q, 1, none⟩ = some (.int .i64 y.ice) := fun w' h => (World.cell?_of_block (a := ⟨q, _, none⟩) (h.block q hql)).trans d1
        have rq2 : ∀ w' : World, Below w1.heap.size w1 w' → w'.cell? ⟨q, 2, none⟩ = some (.int .i64 y.water) := fun w' h => (World.cell?_of_block (a := ⟨q, _, none⟩) (h.block q hql)).trans d2
        have rq3 : ∀ w' : World, Below w1.heap.size w1 w' → w'.cell? ⟨q, 3, none⟩ = some (.int .i64 y.dens) := fun w' h => (World.cell?_of_block (a := ⟨q, _, none⟩) (h.block q hql)).trans d3
        have rq4 : ∀ w' : World, Below w1.heap.size w1 w' → w'.cell? ⟨q, 4, none⟩ = some (.int .i64 y.deg) := fun w' h => (World.cell?_of_block (a := ⟨q, _, none⟩) (h.block q hql)).trans d4
        have rq5 : ∀ w' : World, Below w1.heap.size w1 w' → w'.cell? ⟨q, 5, none⟩ = some (.int .i64 y.hard) := fun w' h => (World.cell?_of_block (a := ⟨q, _, none⟩) (h.block q hql)).trans d5
        have rq6 : ∀ w' : World, Below w1.heap.size w1 w' → w'.cell? ⟨q, 6, none⟩ = some (.int .i64 y.age) := fun w' h => (World.cell?_of_block (a := ⟨q, _, none⟩) (h.block q hql)).trans d6
        clear c0 c1 c2 c3 c4 c5 c6 d0 d1 d2 d3 d4 d5 d6
        refine wp_region_noPanic ?_
        refine wp_region_held_drew (S := fun w' => Below w1.heap.size w1 w') (by kernel_rfl) (Below.refl _ _).drew (fun hHeld => ?_)
        refine takeL (i := 0) (oi := ?_) (v := ?_) ?_ (by kernel_rfl) (by kernel_rfl) (by kernel_rfl) ?_ ?_ hHeld ?_
        case refine_3 => rfl
        case refine_4 => exact fun _ _ _ h => h
        case refine_5 =>
          refine Or.inl ⟨by rfl, ?_⟩
          intro w hSw
          try dsimp only at hSw
          go_simp
          try with_reducible rfl
        try simp only [Act.put, List.setIfInBounds_toArray, List.set_cons_zero, List.set_cons_succ]
        refine takeL (i := 1) (oi := ?_) (v := ?_) ?_ (by kernel_rfl) (by kernel_rfl) (by kernel_rfl) ?_ ?_ hHeld ?_
        case refine_3 => rfl
        case refine_4 => exact fun _ _ _ h => h
        case refine_5 =>
          refine Or.inl ⟨by rfl, ?_⟩
          intro w hSw
          try dsimp only at hSw
          go_simp
          try with_reducible rfl
        try simp only [Act.put, List.setIfInBounds_toArray, List.set_cons_zero, List.set_cons_succ]
        refine takeL (i := 2) (oi := ?_) (v := ?_) ?_ (by kernel_rfl) (by kernel_rfl) (by kernel_rfl) ?_ ?_ hHeld ?_
        case refine_3 => rfl
        case refine_4 => exact fun _ _ _ h => h
        case refine_5 =>
          refine Or.inl ⟨by rfl, ?_⟩
          intro w hSw
          try dsimp only at hSw
          go_simp
          try with_reducible rfl
        try simp only [Act.put, List.setIfInBounds_toArray, List.set_cons_zero, List.set_cons_succ]
        refine takeL (i := 3) (oi := ?_) (v := ?_) ?_ (by kernel_rfl) (by kernel_rfl) (by kernel_rfl) ?_ ?_ hHeld ?_
        case refine_3 => rfl
        case refine_4 => exact fun _ _ _ h => h
        case refine_5 =>
          refine Or.inl ⟨by rfl, ?_⟩
          intro w hSw
          try dsimp only at hSw
          go_simp
          try with_reducible rfl
        try simp only [Act.put, List.setIfInBounds_toArray, List.set_cons_zero, List.set_cons_succ]
        refine takeL (i := 4) (oi := ?_) (v := ?_) ?_ (by kernel_rfl) (by kernel_rfl) (by kernel_rfl) ?_ ?_ hHeld ?_
        case refine_3 => rfl
        case refine_4 => exact fun _ _ _ h => h
        case refine_5 =>
          refine Or.inl ⟨by rfl, ?_⟩
          intro w hSw
          try dsimp only at hSw
          go_simp
          try with_reducible rfl
        try simp only [Act.put, List.setIfInBounds_toArray, List.set_cons_zero, List.set_cons_succ]
        refine takeL (i := 5) (oi := ?_) (v := ?_) ?_ (by kernel_rfl) (by kernel_rfl) (by kernel_rfl) ?_ ?_ hHeld ?_
        case refine_3 => rfl
        case refine_4 => exact fun _ _ _ h => h
        case refine_5 =>
          refine Or.inl ⟨by rfl, ?_⟩
          intro w hSw
          try dsimp only at hSw
          go_simp
          try with_reducible rfl
        try simp only [Act.put, List.setIfInBounds_toArray, List.set_cons_zero, List.set_cons_succ]
        refine takeL (i := 6) (oi := ?_) (v := ?_) ?_ (by kernel_rfl) (by kernel_rfl) (by kernel_rfl) ?_ ?_ hHeld ?_
        case refine_3 => rfl
        case refine_4 => exact fun _ _ _ h => h
        case refine_5 =>
          refine Or.inl ⟨by rfl, ?_⟩
          intro w hSw
          try dsimp only at hSw
          go_simp
          try with_reducible rfl
        try simp only [Act.put, List.setIfInBounds_toArray, List.set_cons_zero, List.set_cons_succ]
        refine takeL (i := 7) (oi := ?_) (v := ?_) ?_ (by kernel_rfl) (by kernel_rfl) (by kernel_rfl) ?_ ?_ hHeld ?_
        case refine_3 => rfl
        case refine_4 => exact fun _ _ _ h => h
        case refine_5 =>
          refine Or.inl ⟨by rfl, ?_⟩
          intro w hSw
          try dsimp only at hSw
          go_simp
          try with_reducible rfl
        try simp only [Act.put, List.setIfInBounds_toArray, List.set_cons_zero, List.set_cons_succ]
        refine takeL (i := 8) (oi := ?_) (v := ?_) ?_ (by kernel_rfl) (by kernel_rfl) (by kernel_rfl) ?_ ?_ hHeld ?_
        case refine_3 => rfl
        case refine_4 => exact fun _ _ _ h => h
        case refine_5 =>
          refine Or.inl ⟨by rfl, ?_⟩
          intro w hSw
          try dsimp only at hSw
          go_simp
          try with_reducible rfl
        try simp only [Act.put, List.setIfInBounds_toArray, List.set_cons_zero, List.set_cons_succ]
        refine takeL (i := 9) (oi := ?_) (v := ?_) ?_ (by kernel_rfl) (by kernel_rfl) (by kernel_rfl) ?_ ?_ hHeld ?_
        case refine_3 => rfl
        case refine_4 => exact fun _ _ _ h => h
        case refine_5 =>
          refine Or.inl ⟨by rfl, ?_⟩
          intro w hSw
          try dsimp only at hSw
          go_simp
          try with_reducible rfl
        try simp only [Act.put, List.setIfInBounds_toArray, List.set_cons_zero, List.set_cons_succ]
        refine takeL (i := 10) (oi := ?_) (v := ?_) ?_ (by kernel_rfl) (by kernel_rfl) (by kernel_rfl) ?_ ?_ hHeld ?_
        case refine_3 => rfl
        case refine_4 => exact fun _ _ _ h => h
        case refine_5 =>
          refine Or.inl ⟨by rfl, ?_⟩
          intro w hSw
          try dsimp only at hSw
          go_simp
          try with_reducible rfl
        try simp only [Act.put, List.setIfInBounds_toArray, List.set_cons_zero, List.set_cons_succ]
        refine takeL (i := 11) (oi := ?_) (v := ?_) ?_ (by kernel_rfl) (by kernel_rfl) (by kernel_rfl) ?_ ?_ hHeld ?_
        case refine_3 => rfl
        case refine_4 => exact fun _ _ _ h => h
        case refine_5 =>
          refine Or.inl ⟨by rfl, ?_⟩
          intro w hSw
          try dsimp only at hSw
          go_simp
          try with_reducible rfl
        try simp only [Act.put, List.setIfInBounds_toArray, List.set_cons_zero, List.set_cons_succ]
        refine takeL (i := 12) (oi := ?_) (v := ?_) ?_ (by kernel_rfl) (by kernel_rfl) (by kernel_rfl) ?_ ?_ hHeld ?_
        case refine_3 => rfl
        case refine_4 => exact fun _ _ _ h => h
        case refine_5 =>
          refine Or.inl ⟨by rfl, ?_⟩
          intro w hSw
          try dsimp only at hSw
          go_simp
          try with_reducible rfl
        try simp only [Act.put, List.setIfInBounds_toArray, List.set_cons_zero, List.set_cons_succ]
        refine takeL (i := 13) (oi := ?_) (v := ?_) ?_ (by kernel_rfl) (by kernel_rfl) (by kernel_rfl) ?_ ?_ hHeld ?_
        case refine_3 => rfl
        case refine_4 => exact fun _ _ _ h => h
        case refine_5 =>
          refine Or.inl ⟨by rfl, ?_⟩
          intro w hSw
          try dsimp only at hSw
          go_simp
          try with_reducible rfl
        try simp only [Act.put, List.setIfInBounds_toArray, List.set_cons_zero, List.set_cons_succ]
        refine takeL (i := 14) (oi := ?_) (v := ?_) ?_ (by kernel_rfl) (by kernel_rfl) (by kernel_rfl) ?_ ?_ hHeld ?_
        case refine_3 => rfl
        case refine_4 => exact fun _ _ _ h => h
        case refine_5 =>
          refine Or.inl ⟨by rfl, ?_⟩
          intro w hSw
          try dsimp only at hSw
          go_simp
          try with_reducible rfl
        try simp only [Act.put, List.setIfInBounds_toArray, List.set_cons_zero, List.set_cons_succ]
        refine takeL (i := 15) (oi := ?_) (v := ?_) ?_ (by kernel_rfl) (by kernel_rfl) (by kernel_rfl) ?_ ?_ hHeld ?_
        case refine_3 => rfl
        case refine_4 => exact fun _ _ _ h => h
        case refine_5 =>
          refine Or.inl ⟨by rfl, ?_⟩
          intro w hSw
          try dsimp only at hSw
          go_simp
          try with_reducible rfl
        try simp only [Act.put, List.setIfInBounds_toArray, List.set_cons_zero, List.set_cons_succ]
        refine takeL (i := 16) (oi := ?_) (v := ?_) ?_ (by kernel_rfl) (by kernel_rfl) (by kernel_rfl) ?_ ?_ hHeld ?_
        case refine_3 => rfl
        case refine_4 => exact fun _ _ _ h => h
        case refine_5 =>
          refine Or.inl ⟨by rfl, ?_⟩
          intro w hSw
          try dsimp only at hSw
          go_simp
          try with_reducible rfl
        try simp only [Act.put, List.setIfInBounds_toArray, List.set_cons_zero, List.set_cons_succ]
        refine takeL (i := 17) (oi := ?_) (v := ?_) ?_ (by kernel_rfl) (by kernel_rfl) (by kernel_rfl) ?_ ?_ hHeld ?_
        case refine_3 => rfl
        case refine_4 => exact fun _ _ _ h => h
        case refine_5 =>
          refine Or.inl ⟨by rfl, ?_⟩
          intro w hSw
          try dsimp only at hSw
          go_simp
          try with_reducible rfl
        try simp only [Act.put, List.setIfInBounds_toArray, List.set_cons_zero, List.set_cons_succ]
        refine takeL (i := 18) (oi := ?_) (v := ?_) ?_ (by kernel_rfl) (by kernel_rfl) (by kernel_rfl) ?_ ?_ hHeld ?_
        case refine_3 => rfl
        case refine_4 => exact fun _ _ _ h => h
        case refine_5 =>
          refine Or.inl ⟨by rfl, ?_⟩
          intro w hSw
          try dsimp only at hSw
          go_simp
          try with_reducible rfl
        try simp only [Act.put, List.setIfInBounds_toArray, List.set_cons_zero, List.set_cons_succ]
        refine takeL (i := 19) (oi := ?_) (v := ?_) ?_ (by kernel_rfl) (by kernel_rfl) (by kernel_rfl) ?_ ?_ hHeld ?_
        case refine_3 => rfl
        case refine_4 => exact fun _ _ _ h => h
        case refine_5 =>
          refine Or.inl ⟨by rfl, ?_⟩
          intro w hSw
          try dsimp only at hSw
          go_simp
          try with_reducible rfl
        try simp only [Act.put, List.setIfInBounds_toArray, List.set_cons_zero, List.set_cons_succ]
        refine takeL (i := 21) (oi := ?_) (v := ?_) ?_ (by kernel_rfl) (by kernel_rfl) (by kernel_rfl) ?_ ?_ hHeld ?_
        case refine_3 => rfl
        case refine_4 => exact fun _ _ _ h => h
        case refine_5 =>
          refine Or.inl ⟨by rfl, ?_⟩
          intro w hSw
          try dsimp only at hSw
          go_simp
          try with_reducible rfl
        try simp only [Act.put, List.setIfInBounds_toArray, List.set_cons_zero, List.set_cons_succ]
        refine takeL (i := 22) (oi := ?_) (v := ?_) ?_ (by kernel_rfl) (by kernel_rfl) (by kernel_rfl) ?_ ?_ hHeld ?_
        case refine_3 => rfl
        case refine_4 => exact fun _ _ _ h => h
        case refine_5 =>
          refine Or.inl ⟨by rfl, ?_⟩
          intro w hSw
          try dsimp only at hSw
          go_simp
          try with_reducible rfl
        try simp only [Act.put, List.setIfInBounds_toArray, List.set_cons_zero, List.set_cons_succ]
        refine takeL (i := 23) (oi := ?_) (v := ?_) ?_ (by kernel_rfl) (by kernel_rfl) (by kernel_rfl) ?_ ?_ hHeld ?_
        case refine_3 => rfl
        case refine_4 => exact fun _ _ _ h => h
        case refine_5 =>
          refine Or.inl ⟨by rfl, ?_⟩
          intro w hSw
          try dsimp only at hSw
          go_simp
          try with_reducible rfl
        try simp only [Act.put, List.setIfInBounds_toArray, List.set_cons_zero, List.set_cons_succ]
        refine takeL (i := 24) (oi := ?_) (v := ?_) ?_ (by kernel_rfl) (by kernel_rfl) (by kernel_rfl) ?_ ?_ hHeld ?_
        case refine_3 => rfl
        case refine_4 => exact fun _ _ _ h => h
        case refine_5 =>
          refine Or.inl ⟨by rfl, ?_⟩
          intro w hSw
          try dsimp only at hSw
          go_simp
          try with_reducible rfl
        try simp only [Act.put, List.setIfInBounds_toArray, List.set_cons_zero, List.set_cons_succ]
        refine takeL (i := 25) (oi := ?_) (v := ?_) ?_ (by kernel_rfl) (by kernel_rfl) (by kernel_rfl) ?_ ?_ hHeld ?_
        case refine_3 => rfl
        case refine_4 => exact fun _ _ _ h => h
        case refine_5 =>
          refine Or.inl ⟨by rfl, ?_⟩
          intro w hSw
          try dsimp only at hSw
          go_simp
          try with_reducible rfl
        try simp only [Act.put, List.setIfInBounds_toArray, List.set_cons_zero, List.set_cons_succ]
        refine takeL (i := 26) (oi := ?_) (v := ?_) ?_ (by kernel_rfl) (by kernel_rfl) (by kernel_rfl) ?_ ?_ hHeld ?_
        case refine_3 => rfl
        case refine_4 => exact fun _ _ _ h => h
        case refine_5 =>
          refine Or.inl ⟨by rfl, ?_⟩
          intro w hSw
          try dsimp only at hSw
          go_simp
          try with_reducible rfl
        try simp only [Act.put, List.setIfInBounds_toArray, List.set_cons_zero, List.set_cons_succ]
        refine takeL (i := 27) (oi := ?_) (v := ?_) ?_ (by kernel_rfl) (by kernel_rfl) (by kernel_rfl) ?_ ?_ hHeld ?_
        case refine_3 => rfl
        case refine_4 => exact fun _ _ _ h => h
        case refine_5 =>
          refine Or.inl ⟨by rfl, ?_⟩
          intro w hSw
          try dsimp only at hSw
          go_simp
          try with_reducible rfl
        try simp only [Act.put, List.setIfInBounds_toArray, List.set_cons_zero, List.set_cons_succ]
        refine takeL (i := 28) (oi := ?_) (v := ?_) ?_ (by kernel_rfl) (by kernel_rfl) (by kernel_rfl) ?_ ?_ hHeld ?_
        case refine_3 => rfl
        case refine_4 => exact fun _ _ _ h => h
        case refine_5 =>
          refine Or.inl ⟨by rfl, ?_⟩
          intro w hSw
          try dsimp only at hSw
          go_simp
          try with_reducible rfl
        try simp only [Act.put, List.setIfInBounds_toArray, List.set_cons_zero, List.set_cons_succ]
        refine takeL (i := 29) (oi := ?_) (v := ?_) ?_ (by kernel_rfl) (by kernel_rfl) (by kernel_rfl) ?_ ?_ hHeld ?_
        case refine_3 => rfl
        case refine_4 => exact fun _ _ _ h => h
        case refine_5 =>
          refine Or.inl ⟨by rfl, ?_⟩
          intro w hSw
          try dsimp only at hSw
          go_simp
          try with_reducible rfl
        try simp only [Act.put, List.setIfInBounds_toArray, List.set_cons_zero, List.set_cons_succ]
        refine takeL (i := 30) (oi := ?_) (v := ?_) ?_ (by kernel_rfl) (by kernel_rfl) (by kernel_rfl) ?_ ?_ hHeld ?_
        case refine_3 => rfl
        case refine_4 => exact fun _ _ _ h => h
        case refine_5 =>
          refine Or.inl ⟨by rfl, ?_⟩
          intro w hSw
          try dsimp only at hSw
          go_simp
          try with_reducible rfl
        try simp only [Act.put, List.setIfInBounds_toArray, List.set_cons_zero, List.set_cons_succ]
        refine takeL (i := 31) (oi := ?_) (v := ?_) ?_ (by kernel_rfl) (by kernel_rfl) (by kernel_rfl) ?_ ?_ hHeld ?_
        case refine_3 => rfl
        case refine_4 => exact fun _ _ _ h => h
        case refine_5 =>
          refine Or.inl ⟨by rfl, ?_⟩
          intro w hSw
          try dsimp only at hSw
          go_simp
          try with_reducible rfl
        try simp only [Act.put, List.setIfInBounds_toArray, List.set_cons_zero, List.set_cons_succ]
        refine takeL (i := 32) (oi := ?_) (v := ?_) ?_ (by kernel_rfl) (by kernel_rfl) (by kernel_rfl) ?_ ?_ hHeld ?_
        case refine_3 => rfl
        case refine_4 => exact fun _ _ _ h => h
        case refine_5 =>
          refine Or.inl ⟨by rfl, ?_⟩
          intro w hSw
          try dsimp only at hSw
          go_simp
          try with_reducible rfl
        try simp only [Act.put, List.setIfInBounds_toArray, List.set_cons_zero, List.set_cons_succ]
        refine takeL (i := 34) (oi := ?_) (v := ?_) ?_ (by kernel_rfl) (by kernel_rfl) (by kernel_rfl) ?_ ?_ hHeld ?_
        case refine_3 => rfl
        case refine_4 => exact fun _ _ _ h => h
        case refine_5 =>
          refine Or.inl ⟨by rfl, ?_⟩
          intro w hSw
          try dsimp only at hSw
          go_simp
          try with_reducible rfl
        try simp only [Act.put, List.setIfInBounds_toArray, List.set_cons_zero, List.set_cons_succ]
        refine takeL (i := 35) (oi := ?_) (v := ?_) ?_ (by kernel_rfl) (by kernel_rfl) (by kernel_rfl) ?_ ?_ hHeld ?_
        case refine_3 => rfl
        case refine_4 => exact fun _ _ _ h => h
        case refine_5 =>
          refine Or.inl ⟨by rfl, ?_⟩
          intro w hSw
          try dsimp only at hSw
          go_simp
          try with_reducible rfl
        try simp only [Act.put, List.setIfInBounds_toArray, List.set_cons_zero, List.set_cons_succ]
        refine takeL (i := 36) (oi := ?_) (v := ?_) ?_ (by kernel_rfl) (by kernel_rfl) (by kernel_rfl) ?_ ?_ hHeld ?_
        case refine_3 => rfl
        case refine_4 => exact fun _ _ _ h => h
        case refine_5 =>
          refine Or.inl ⟨by rfl, ?_⟩
          intro w hSw
          try dsimp only at hSw
          go_simp
          try with_reducible rfl
        try simp only [Act.put, List.setIfInBounds_toArray, List.set_cons_zero, List.set_cons_succ]
        refine takeL (i := 37) (oi := ?_) (v := ?_) ?_ (by kernel_rfl) (by kernel_rfl) (by kernel_rfl) ?_ ?_ hHeld ?_
        case refine_3 => rfl
        case refine_4 => exact fun _ _ _ h => h
        case refine_5 =>
          refine Or.inl ⟨by rfl, ?_⟩
          intro w hSw
          try dsimp only at hSw
          go_simp
          try with_reducible rfl
        try simp only [Act.put, List.setIfInBounds_toArray, List.set_cons_zero, List.set_cons_succ]
        refine takeL (i := 38) (oi := ?_) (v := ?_) ?_ (by kernel_rfl) (by kernel_rfl) (by kernel_rfl) ?_ ?_ hHeld ?_
        case refine_3 => rfl
        case refine_4 => exact fun _ _ _ h => h
        case refine_5 =>
          refine Or.inl ⟨by rfl, ?_⟩
          intro w hSw
          try dsimp only at hSw
          go_simp
          try with_reducible rfl
        try simp only [Act.put, List.setIfInBounds_toArray, List.set_cons_zero, List.set_cons_succ]
        refine takeL (i := 39) (oi := ?_) (v := ?_) ?_ (by kernel_rfl) (by kernel_rfl) (by kernel_rfl) ?_ ?_ hHeld ?_
        case refine_3 => rfl
        case refine_4 => exact fun _ _ _ h => h
        case refine_5 =>
          refine Or.inl ⟨by rfl, ?_⟩
          intro w hSw
          try dsimp only at hSw
          go_simp
          try with_reducible rfl
        try simp only [Act.put, List.setIfInBounds_toArray, List.set_cons_zero, List.set_cons_succ]
        refine takeL (i := 40) (oi := ?_) (v := ?_) ?_ (by kernel_rfl) (by kernel_rfl) (by kernel_rfl) ?_ ?_ hHeld ?_
        case refine_3 => rfl
        case refine_4 => exact fun _ _ _ h => h
        case refine_5 =>
          refine Or.inl ⟨by rfl, ?_⟩
          intro w hSw
          try dsimp only at hSw
          go_simp
          try with_reducible rfl
        try simp only [Act.put, List.setIfInBounds_toArray, List.set_cons_zero, List.set_cons_succ]
        refine takeL (i := 41) (oi := ?_) (v := ?_) ?_ (by kernel_rfl) (by kernel_rfl) (by kernel_rfl) ?_ ?_ hHeld ?_
        case refine_3 => rfl
        case refine_4 => exact fun _ _ _ h => h
        case refine_5 =>
          refine Or.inl ⟨by rfl, ?_⟩
          intro w hSw
          try dsimp only at hSw
          go_simp
          try with_reducible rfl
        try simp only [Act.put, List.setIfInBounds_toArray, List.set_cons_zero, List.set_cons_succ]
        refine takeL (i := 42) (oi := ?_) (v := ?_) ?_ (by kernel_rfl) (by kernel_rfl) (by kernel_rfl) ?_ ?_ hHeld ?_
        case refine_3 => rfl
        case refine_4 => exact fun _ _ _ h => h
        case refine_5 =>
          refine Or.inl ⟨by rfl, ?_⟩
          intro w hSw
          try dsimp only at hSw
          go_simp
          try with_reducible rfl
        try simp only [Act.put, List.setIfInBounds_toArray, List.set_cons_zero, List.set_cons_succ]
        refine takeL (i := 43) (oi := ?_) (v := ?_) ?_ (by kernel_rfl) (by kernel_rfl) (by kernel_rfl) ?_ ?_ hHeld ?_
        case refine_3 => rfl
        case refine_4 => exact fun _ _ _ h => h
        case refine_5 =>
          refine Or.inl ⟨by rfl, ?_⟩
          intro w hSw
          try dsimp only at hSw
          go_simp
          try with_reducible rfl
        try simp only [Act.put, List.setIfInBounds_toArray, List.set_cons_zero, List.set_cons_succ]
        refine wpAnyH_ready (rs := [20, 45]) (by kernel_rfl) (by simp) ?_
        refine consL (i := 20) (o := ?_) ?_ (fun K hK => ?_) ?_
        case refine_2 => rfl
        case refine_3 =>
          go_simp
          go_at_call 18; refine (HD.out _).mono ?_; rintro e wd ⟨rfl, hbd⟩
          have hSd : Below w1.heap.size w1 wd := bl_trans hHeld hbd
          have hsz := hSd.size
          try go_wp2_with fail
          refine hK.out _ _ ?_ (fun hHeld => ?_)
          case refine_1 =>
            try dsimp only
            with_reducible exact hSd
          clear hK K
          try simp only [Act.put, List.setIfInBounds_toArray, List.set_cons_zero, List.set_cons_succ]
          refine wpAnyH_ready (rs := [33, 45]) (by kernel_rfl) (by simp) ?_
          refine consL (i := 33) (o := ?_) ?_ (fun K hK => ?_) ?_
          case refine_2 => rfl
          case refine_3 =>
            go_simp
            go_at_call 18; refine (HE.out _).mono ?_; rintro e wd ⟨rfl, hbd⟩
            have hSd : Below w1.heap.size w1 wd := bl_trans hHeld hbd
            have hsz := hSd.size
            try go_wp2_with fail
            refine hK.out _ _ ?_ (fun hHeld => ?_)
            case refine_1 =>
              try dsimp only
              with_reducible exact hSd
            clear hK K
            try simp only [Act.put, List.setIfInBounds_toArray, List.set_cons_zero, List.set_cons_succ]
            refine takeL (i := 44) (oi := ?_) (v := ?_) ?_ (by kernel_rfl) (by kernel_rfl) (by kernel_rfl) ?_ ?_ hHeld ?_
            case refine_3 => rfl
            case refine_4 => exact fun _ _ _ h => h
            case refine_5 =>
              refine Or.inl ⟨by rfl, ?_⟩
              intro w hSw
              try dsimp only at hSw
              go_simp
              try with_reducible rfl
            try simp only [Act.put, List.setIfInBounds_toArray, List.set_cons_zero, List.set_cons_succ]
            refine wpAnyH_ready (rs := [45]) (by kernel_rfl) (by simp) ?_
            refine consL (i := 45) (o := ?_) ?_ (fun K hK => ?_) ?_
            case refine_2 => rfl
            case refine_3 =>
              go_simp
              refine hK.out _ _ ?_ (fun hHeld => ?_)
              case refine_1 =>
                try dsimp only
                first | (with_reducible exact bl_alloc hHeld _) | (with_reducible exact (bl_alloc (Below.refl _ _) _).drew)
              clear hK K
              try simp only [Act.put, List.setIfInBounds_toArray, List.set_cons_zero, List.set_cons_succ]
              refine wpAnyH_ready (rs := [46]) (by kernel_rfl) (by simp) ?_
              refine consL (i := 46) (o := ?_) ?_ (fun K hK => ?_) ?_
              case refine_2 => rfl
              case refine_3 =>
                go_simp
                refine hK.out _ _ ?_ (fun hHeld => ?_)
                case refine_1 =>
                  try dsimp only
                  with_reducible exact (bl_alloc hSd _)
                clear hK K
                try simp only [Act.put, List.setIfInBounds_toArray, List.set_cons_zero, List.set_cons_succ]
                refine wpAnyH_done (by kernel_rfl) ?_ _
                refine NoPanic.normal ?_
                go_wp2_with fail
                go_meet
                first | exact ⟨_, rfl, LyAt.put7 HKN.out ⟨x.form, x.ice + y.ice, x.water + y.water, D, E, M, X⟩, by assumption⟩ | exact ⟨_, rfl, LyAt.new _ _ ⟨x.form, x.ice + y.ice, x.water + y.water, D, E, M, X⟩, by assumption⟩
              exact AllReadyH.nil
            exact AllReadyH.nil
          refine consL (i := 45) (o := ?_) ?_ (fun K hK => ?_) ?_
          case refine_2 => rfl
          case refine_3 =>
            go_simp
            refine hK.out _ _ ?_ (fun hHeld => ?_)
            case refine_1 =>
              try dsimp only
              first | (with_reducible exact bl_alloc hHeld _) | (with_reducible exact (bl_alloc (Below.refl _ _) _).drew)
            clear hK K
            try simp only [Act.put, List.setIfInBounds_toArray, List.set_cons_zero, List.set_cons_succ]
            refine wpAnyH_ready (rs := [33]) (by kernel_rfl) (by simp) ?_
            refine consL (i := 33) (o := ?_) ?_ (fun K hK => ?_) ?_
            case refine_2 => rfl
            case refine_3 =>
              go_simp
              go_at_call 18; refine (HE.out _).mono ?_; rintro e wd ⟨rfl, hbd⟩
              have hSd : Below w1.heap.size w1 wd := bl_trans hHeld hbd
              have hsz := hSd.size
              obtain ⟨hkn, z0, z1, z2, z3, z4, z5, z6, f0, f1, f2, f3, f4, f5, f6⟩ := new7 hbd; have HKN := Lib.hid hkn; clear hkn
              try go_wp2_with fail
              refine hK.out _ _ ?_ (fun hHeld => ?_)
              case refine_1 =>
                try dsimp only
                with_reducible exact hSd
              clear hK K
              try simp only [Act.put, List.setIfInBounds_toArray, List.set_cons_zero, List.set_cons_succ]
              refine takeL (i := 44) (oi := ?_) (v := ?_) ?_ (by kernel_rfl) (by kernel_rfl) (by kernel_rfl) ?_ ?_ hHeld ?_
              case refine_3 => rfl
              case refine_4 => exact fun _ _ _ h => h
              case refine_5 =>
                refine Or.inl ⟨by rfl, ?_⟩
                intro w hSw
                try dsimp only at hSw
                go_simp
                try with_reducible rfl
              try simp only [Act.put, List.setIfInBounds_toArray, List.set_cons_zero, List.set_cons_succ]
              refine wpAnyH_ready (rs := [46]) (by kernel_rfl) (by simp) ?_
              refine consL (i := 46) (o := ?_) ?_ (fun K hK => ?_) ?_
              case refine_2 => rfl
              case refine_3 =>
                go_simp
                refine hK.out _ _ ?_ (fun hHeld => ?_)
                case refine_1 =>
                  try dsimp only
                  with_reducible exact (bl_put7 hHeld (by first | exact Nat.le_refl _ | assumption) _ _ _ _ _ _ _)
                clear hK K
                try simp only [Act.put, List.setIfInBounds_toArray, List.set_cons_zero, List.set_cons_succ]
                refine wpAnyH_done (by kernel_rfl) ?_ _
                refine NoPanic.normal ?_
                go_wp2_with fail
                go_meet
                first | exact ⟨_, rfl, LyAt.put7 HKN.out ⟨x.form, x.ice + y.ice, x.water + y.water, D, E, M, X⟩, by assumption⟩ | exact ⟨_, rfl, LyAt.new _ _ ⟨x.form, x.ice + y.ice, x.water + y.water, D, E, M, X⟩, by assumption⟩
              exact AllReadyH.nil
            exact AllReadyH.nil
          exact AllReadyH.nil
        refine consL (i := 45) (o := ?_) ?_ (fun K hK => ?_) ?_
        case refine_2 => rfl
        case refine_3 =>
          go_simp
          refine hK.out _ _ ?_ (fun hHeld => ?_)
          case refine_1 =>
            try dsimp only
            first | (with_reducible exact bl_alloc hHeld _) | (with_reducible exact (bl_alloc (Below.refl _ _) _).drew)
          clear hK K
          try simp only [Act.put, List.setIfInBounds_toArray, List.set_cons_zero, List.set_cons_succ]
          refine wpAnyH_ready (rs := [20]) (by kernel_rfl) (by simp) ?_
          refine consL (i := 20) (o := ?_) ?_ (fun K hK => ?_) ?_
          case refine_2 => rfl
          case refine_3 =>
            go_simp
            go_at_call 18; refine (HD.out _).mono ?_; rintro e wd ⟨rfl, hbd⟩
            have hSd : Below w1.heap.size w1 wd := bl_trans hHeld hbd
            have hsz := hSd.size
            obtain ⟨hkn, z0, z1, z2, z3, z4, z5, z6, f0, f1, f2, f3, f4, f5, f6⟩ := new7 (undrew hbd); have HKN := Lib.hid hkn; clear hkn
            try go_wp2_with fail
            refine hK.out _ _ ?_ (fun hHeld => ?_)
            case refine_1 =>
              try dsimp only
              with_reducible exact hSd
            clear hK K
            try simp only [Act.put, List.setIfInBounds_toArray, List.set_cons_zero, List.set_cons_succ]
            refine wpAnyH_ready (rs := [33]) (by kernel_rfl) (by simp) ?_
            refine consL (i := 33) (o := ?_) ?_ (fun K hK => ?_) ?_
            case refine_2 => rfl
            case refine_3 =>
              go_simp
              go_at_call 18; refine (HE.out _).mono ?_; rintro e wd ⟨rfl, hbd⟩
              have hSd : Below w1.heap.size w1 wd := bl_trans hHeld hbd
              have hsz := hSd.size
              obtain ⟨hkn, z0, z1, z2, z3, z4, z5, z6, f0, f1, f2, f3, f4, f5, f6⟩ := old7 HKN.out hbd; have HKN := Lib.hid hkn; clear hkn
              try go_wp2_with fail
              refine hK.out _ _ ?_ (fun hHeld => ?_)
              case refine_1 =>
                try dsimp only
                with_reducible exact hSd
              clear hK K
              try simp only [Act.put, List.setIfInBounds_toArray, List.set_cons_zero, List.set_cons_succ]
              refine takeL (i := 44) (oi := ?_) (v := ?_) ?_ (by kernel_rfl) (by kernel_rfl) (by kernel_rfl) ?_ ?_ hHeld ?_
              case refine_3 => rfl
              case refine_4 => exact fun _ _ _ h => h
              case refine_5 =>
                refine Or.inl ⟨by rfl, ?_⟩
                intro w hSw
                try dsimp only at hSw
                go_simp
                try with_reducible rfl
              try simp only [Act.put, List.setIfInBounds_toArray, List.set_cons_zero, List.set_cons_succ]
              refine wpAnyH_ready (rs := [46]) (by kernel_rfl) (by simp) ?_
              refine consL (i := 46) (o := ?_) ?_ (fun K hK => ?_) ?_
              case refine_2 => rfl
              case refine_3 =>
                go_simp
                refine hK.out _ _ ?_ (fun hHeld => ?_)
                case refine_1 =>
                  try dsimp only
                  with_reducible exact (bl_put7 hHeld (by first | exact Nat.le_refl _ | assumption) _ _ _ _ _ _ _)
                clear hK K
                try simp only [Act.put, List.setIfInBounds_toArray, List.set_cons_zero, List.set_cons_succ]
                refine wpAnyH_done (by kernel_rfl) ?_ _
                refine NoPanic.normal ?_
                go_wp2_with fail
                go_meet
                first | exact ⟨_, rfl, LyAt.put7 HKN.out ⟨x.form, x.ice + y.ice, x.water + y.water, D, E, M, X⟩, by assumption⟩ | exact ⟨_, rfl, LyAt.new _ _ ⟨x.form, x.ice + y.ice, x.water + y.water, D, E, M, X⟩, by assumption⟩
              exact AllReadyH.nil
            exact AllReadyH.nil
          exact AllReadyH.nil
        exact AllReadyH.nil
      case rest =>
        obtain ⟨r, rfl, hJ, hbz⟩ := hcut
        rename World => w2
        have HJ2 := HJ.out
        rw [← HJ2] at hJ
        clear c0 c1 c2 c3 c4 c5 c6 d0 d1 d2 d3 d4 d5 d6 HD HE HMIN HMAX MN MX HJ2
        generalize joinF x y = J at *
        have HB2 := Lib.hid (bl_trans HBW.out hbz)
        have HLJ := Lib.hid hJ
        have hrl := hJ.lt
        obtain ⟨a0, a1, a2, a3, a4, a5, a6⟩ := hJ.box
        clear hJ hbz
        rcases hj : lyOk J with _ | _
        · have F := Lib.hid (F5.out hj)
          clear F5 F0
          go_wp2_with fail
          refine (validLayer_any J _).mono ?_
          rintro e w3 ⟨rfl, hb3⟩
          go_wp2_with fail
          go_ret2
          exact ⟨_, by rw [F.out.2]; rfl, by rw [F.out.1]; exact OwnS.nil _ _, bl_trans HB2.out hb3⟩
        · have F := Lib.hid (F0.out hj)
          clear F5 F0
          go_wp2_with fail
          refine (validLayer_any J _).mono ?_
          rintro e w3 ⟨rfl, hb3⟩
          clear a0 a1 a2 a3 a4 a5 a6
          have HL3 := Lib.hid (HLJ.out.below hb3 HLJ.out.lt)
          have hb03 := bl_trans HB2.out hb3
          have HB3 := Lib.hid hb03
          have hBw := hb03.size
          have hr3 := HR.out.below hb03
          have hm2 : m + 2 ≤ ls.length := HLM.out
          obtain ⟨A1, k1, hs1, hd1⟩ := slice_to (some ⟨g, o, none⟩) c ls m (m : Int) rfl (by omega) hc
          obtain ⟨A2, k2, hs2, hd2⟩ := slice_from (some ⟨g, o, none⟩) c ls (m + 2) ((m : Int) + 2) (by omega) (by omega) hc
          have HR1 := Lib.hid (hd1 w3 hr3)
          have HR2 := Lib.hid (hd2 w3 hr3)
          have l1 : (ls.take m).length ≤ 16 := by rw [List.length_take]; omega
          have l2 : (ls.drop (m + 2)).length ≤ 16 := by rw [List.length_drop]; omega
          have r1 : IntKind.i64.wrap ((m : Int) + 2) = (m : Int) + 2 := by rw [IntKind.wrap_i64]; omega
          clear hr3 hd1 hd2 hb03 hb3
          generalize ls.take m = pre at *
          generalize ls.drop (m + 2) = post at *
          have q0 : ∀ w' : World, Below w3.heap.size w3 w' → w'.cell? ⟨r, 0, none⟩ = some (.int .i64 J.form) := fun w' h => (HL3.out.below h HL3.out.lt).box.1
          have q1 : ∀ w' : World, Below w3.heap.size w3 w' → w'.cell? ⟨r, 1, none⟩ = some (.int .i64 J.ice) := fun w' h => (HL3.out.below h HL3.out.lt).box.2.1
          have q2 : ∀ w' : World, Below w3.heap.size w3 w' → w'.cell? ⟨r, 2, none⟩ = some (.int .i64 J.water) := fun w' h => (HL3.out.below h HL3.out.lt).box.2.2.1
          have q3 : ∀ w' : World, Below w3.heap.size w3 w' → w'.cell? ⟨r, 3, none⟩ = some (.int .i64 J.dens) := fun w' h => (HL3.out.below h HL3.out.lt).box.2.2.2.1
          have q4 : ∀ w' : World, Below w3.heap.size w3 w' → w'.cell? ⟨r, 4, none⟩ = some (.int .i64 J.deg) := fun w' h => (HL3.out.below h HL3.out.lt).box.2.2.2.2.1
          have q5 : ∀ w' : World, Below w3.heap.size w3 w' → w'.cell? ⟨r, 5, none⟩ = some (.int .i64 J.hard) := fun w' h => (HL3.out.below h HL3.out.lt).box.2.2.2.2.2.1
          have q6 : ∀ w' : World, Below w3.heap.size w3 w' → w'.cell? ⟨r, 6, none⟩ = some (.int .i64 J.age) := fun w' h => (HL3.out.below h HL3.out.lt).box.2.2.2.2.2.2
          go_wp2_with fail
          clear hj
          go_region_held3 (fun w' => Below w3.heap.size w3 w') (first | (with_reducible assumption) | (with_reducible exact (Below.refl _ _).drew) | (with_reducible exact (bl_alloc (Below.refl _ _) _).drew) | (with_reducible exact (bl_alloc (bl_alloc (Below.refl _ _) _) _).drew) | (with_reducible exact bl_alloc (by assumption) _))
            (first | (go_at_call 20; refine (concat3_any _ A1 (some ⟨w3.heap.size, 0, none⟩) A2 k1 1 k2 pre [J] post _ ?_ ?_ ?_).mono ?_; (exact (parts3 _ _ _ _ _ _ _ _ _ _ _ _ _ _ rfl rfl rfl (HR1.out.below (bl_alloc (Below.refl _ _) _)) (RdL.one (LyAt.new' _ _ J _ rfl)) (HR2.out.below (bl_alloc (Below.refl _ _) _)) _ (by simp)).drew); (simp); (simp only [List.length_cons, List.length_nil]; omega); rintro e w5 ⟨v3, rfl, ho3, hb5⟩; have hSd : Below w3.heap.size w3 w5 := bl_trans (by with_reducible assumption) hb5))
          go_wp2_with fail
          go_ret2
          exact ⟨v3, by rw [F.out.2]; rfl, by rw [F.out.1]; exact ho3.mono (by simp; omega), bl_trans HB3.out (by assumption)⟩
  · have F := Lib.hid (join_6 hm hok hin hf)
    have hfb : (ls[m].form != ls[m + 1].form) = true := by simpa using hf
    go_enter Try.func7, Try.ntmps7
    go_wp2_with (first | (go_at_call 16; refine (validProfile_any _ c ls _ hr hn).mono ?_; rintro e wv ⟨rfl, hb1⟩; have hgv := (HX.out.below hb1 HX.out.lt).lt; obtain ⟨c0, c1, c2, c3, c4, c5, c6⟩ := HX.out.below hb1 HX.out.lt; obtain ⟨d0, d1, d2, d3, d4, d5, d6⟩ := HY.out.below hb1 HY.out.lt) | (go_at_call 17; refine (within_any _ _ _ _).mono ?_; rintro e w' ⟨rfl, rfl⟩))
    go_region
    all_goals
      go_wp2_with fail
      go_ret2
      exact ⟨_, by rw [F.out.2]; rfl, by rw [F.out.1]; exact OwnS.nil _ _, bl_trans hb1 (bl_alloc (bl_alloc (Below.refl _ _) _) _).drew⟩
end Go.Proofs.Ythlandlpjhdbdaa
