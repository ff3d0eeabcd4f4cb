/- Slices of layers in memory: how one reads as a list, how one of the call's own is written, and the contracts of the law's helpers (size, copy, equality). No condition. -/
import Derived.Test.YthlandlpjhdbdaaLayer
import Derived.StillTailTactics
import Derived.OwnWalk
import Derived.Laws.CopyRow
import Derived.Deep.QuietTactic
import Derived.BigQuiet
namespace Go.Proofs.Ythlandlpjhdbdaa
open Go.ChangeShapes Go.WideShapes Go.ChangeAt Go.RowKit Go.Joins Go.Deep
set_option linter.unusedVariables false
/-! ### a slice that reads as a list of layers -/
def RdL (w : World) (A : Option Addr) (ls : List Ly) : Prop := ∀ k x, ls[k]? = some x → ∃ g o, A = some ⟨g, o, none⟩ ∧ LyAt w g (o + k * 7) x
theorem LyAt.lt {w : World} {g o : Nat} {x : Ly} (h : LyAt w g o x) : g < w.heap.size := World.block_lt_of_cell? w _ h.c0
theorem LyAt.of_block {w w' : World} {g o : Nat} {x : Ly} (h : LyAt w g o x) (hb : w'.heap[g]? = w.heap[g]?) : LyAt w' g o x :=
  ⟨(World.cell?_of_block (a := ⟨g, _, none⟩) hb).trans h.c0, (World.cell?_of_block (a := ⟨g, _, none⟩) hb).trans h.c1, (World.cell?_of_block (a := ⟨g, _, none⟩) hb).trans h.c2, (World.cell?_of_block (a := ⟨g, _, none⟩) hb).trans h.c3, (World.cell?_of_block (a := ⟨g, _, none⟩) hb).trans h.c4, (World.cell?_of_block (a := ⟨g, _, none⟩) hb).trans h.c5, (World.cell?_of_block (a := ⟨g, _, none⟩) hb).trans h.c6⟩
theorem RdL.keep {w w' : World} {A : Option Addr} {ls : List Ly} (h : RdL w A ls) (hk : ∀ g, g < w.heap.size → w'.heap[g]? = w.heap[g]?) : RdL w' A ls := fun k x hx => by
  obtain ⟨g, o, rfl, hl⟩ := h k x hx
  exact ⟨g, o, rfl, hl.of_block (hk g hl.lt)⟩
theorem RdL.below {w w' : World} {A : Option Addr} {ls : List Ly} (h : RdL w A ls) (hb : Below w.heap.size w w') : RdL w' A ls := h.keep hb.block
theorem RdL.drewN {w : World} {A : Option Addr} {ls : List Ly} (h : RdL w A ls) (n : Nat) : RdL (w.drewN n) A ls := h.keep fun _ _ => rfl
theorem RdL.nil (w : World) (A : Option Addr) : RdL w A [] := fun k x hx => by simp at hx
theorem RdL.at_ {w : World} {A : Option Addr} {ls : List Ly} (h : RdL w A ls) (k : Nat) (hk : k < ls.length) : ∃ g o, A = some ⟨g, o, none⟩ ∧ LyAt w g (o + k * 7) ls[k] := h k _ (List.getElem?_eq_getElem hk)
/-- The addresses of a slice that is not empty. -/
theorem RdL.addr {w : World} {A : Option Addr} {ls : List Ly} (h : RdL w A ls) (h0 : 0 < ls.length) : ∃ g o, A = some ⟨g, o, none⟩ ∧ ∀ k (hk : k < ls.length), LyAt w g (o + k * 7) ls[k] := by
  obtain ⟨g, o, rfl, _⟩ := h.at_ 0 h0
  refine ⟨g, o, rfl, fun k hk => ?_⟩
  obtain ⟨g', o', e, hl⟩ := h.at_ k hk
  injection e with e
  injection e with e1 e2
  subst e1 e2
  exact hl
/-! ### a row of the call's own -/
def Ly.get (x : Ly) : Nat → Int
  | 0 => x.form
  | 1 => x.ice
  | 2 => x.water
  | 3 => x.dens
  | 4 => x.deg
  | 5 => x.hard
  | _ => x.age
def Ly.put (x : Ly) (j : Nat) (v : Int) : Ly := match j with
  | 0 => { x with form := v }
  | 1 => { x with ice := v }
  | 2 => { x with water := v }
  | 3 => { x with dens := v }
  | 4 => { x with deg := v }
  | 5 => { x with hard := v }
  | _ => { x with age := v }
/-- Block g holds cells of element type t, none frozen, the first layers of which are ls. -/
def OwnL (w : World) (g : Nat) (t : TypeId) (ls : List Ly) : Prop := ∃ c : Array Value, w.heap[g]? = some (.cells c t (0, 0)) ∧ ∀ k x, ls[k]? = some x → ∀ j, j < 7 → c[k * 7 + j]? = some (.int .i64 (x.get j))
theorem OwnL.lt {w : World} {g : Nat} {t : TypeId} {ls : List Ly} (h : OwnL w g t ls) : g < w.heap.size := by
  obtain ⟨c, hc, _⟩ := h
  exact (Array.getElem?_eq_some_iff.1 hc).1
theorem OwnL.of_block {w w' : World} {g : Nat} {t : TypeId} {ls : List Ly} (h : OwnL w g t ls) (hb : w'.heap[g]? = w.heap[g]?) : OwnL w' g t ls := by
  obtain ⟨c, hc, hl⟩ := h
  exact ⟨c, hb.trans hc, hl⟩
theorem OwnL.at_ {w : World} {g : Nat} {t : TypeId} {ls : List Ly} (h : OwnL w g t ls) {k : Nat} {x : Ly} (hx : ls[k]? = some x) : LyAt w g (k * 7) x := by
  obtain ⟨c, hc, hl⟩ := h
  have := hl k x hx
  exact ⟨(cell_of_row w g _ c t (0, 0) hc).trans (this 0 (by omega)), (cell_of_row w g _ c t (0, 0) hc).trans (this 1 (by omega)), (cell_of_row w g _ c t (0, 0) hc).trans (this 2 (by omega)), (cell_of_row w g _ c t (0, 0) hc).trans (this 3 (by omega)), (cell_of_row w g _ c t (0, 0) hc).trans (this 4 (by omega)), (cell_of_row w g _ c t (0, 0) hc).trans (this 5 (by omega)), (cell_of_row w g _ c t (0, 0) hc).trans (this 6 (by omega))⟩
theorem OwnL.rd {w : World} {g : Nat} {t : TypeId} {ls : List Ly} (h : OwnL w g t ls) : RdL w (some ⟨g, 0, none⟩) ls := fun k x hx => ⟨g, 0, rfl, by rw [Nat.zero_add]; exact h.at_ hx⟩
theorem OwnL.frozen {w : World} {g : Nat} {t : TypeId} {ls : List Ly} (h : OwnL w g t ls) (j : Nat) : w.frozen? ⟨g, j, none⟩ = false := by
  obtain ⟨c, hc, _⟩ := h
  exact frozen_of_row w g j c t hc
theorem Ly.get_put (x : Ly) (j i : Nat) (v : Int) (hj : j < 7) (hi : i < 7) : (x.put j v).get i = if i = j then v else x.get i := by
  match j, hj with
  | 0, _ => match i, hi with | 0, _ => rfl | 1, _ => rfl | 2, _ => rfl | 3, _ => rfl | 4, _ => rfl | 5, _ => rfl | 6, _ => rfl
  | 1, _ => match i, hi with | 0, _ => rfl | 1, _ => rfl | 2, _ => rfl | 3, _ => rfl | 4, _ => rfl | 5, _ => rfl | 6, _ => rfl
  | 2, _ => match i, hi with | 0, _ => rfl | 1, _ => rfl | 2, _ => rfl | 3, _ => rfl | 4, _ => rfl | 5, _ => rfl | 6, _ => rfl
  | 3, _ => match i, hi with | 0, _ => rfl | 1, _ => rfl | 2, _ => rfl | 3, _ => rfl | 4, _ => rfl | 5, _ => rfl | 6, _ => rfl
  | 4, _ => match i, hi with | 0, _ => rfl | 1, _ => rfl | 2, _ => rfl | 3, _ => rfl | 4, _ => rfl | 5, _ => rfl | 6, _ => rfl
  | 5, _ => match i, hi with | 0, _ => rfl | 1, _ => rfl | 2, _ => rfl | 3, _ => rfl | 4, _ => rfl | 5, _ => rfl | 6, _ => rfl
  | 6, _ => match i, hi with | 0, _ => rfl | 1, _ => rfl | 2, _ => rfl | 3, _ => rfl | 4, _ => rfl | 5, _ => rfl | 6, _ => rfl
theorem OwnL.set {w : World} {g : Nat} {t : TypeId} {ls : List Ly} (h : OwnL w g t ls) {k : Nat} {x : Ly} (hx : ls[k]? = some x) (j : Nat) (hj : j < 7) (v : Int) :
    OwnL (w.setCell ⟨g, k * 7 + j, none⟩ (.int .i64 v)) g t (ls.set k (x.put j v)) := by
  obtain ⟨c, hc, hl⟩ := h
  refine ⟨c.setIfInBounds (k * 7 + j) (.int .i64 v), heap_setCell_same w g _ c t _ hc, fun k' x' hx' j' hj' => ?_⟩
  have hk : k < ls.length := (List.getElem?_eq_some_iff.1 hx).1
  rw [List.getElem?_set] at hx'
  by_cases e : k = k'
  · subst e
    rw [if_pos rfl, if_pos hk] at hx'
    injection hx' with hx'
    subst hx'
    rw [Ly.get_put x j j' v hj hj']
    by_cases e2 : j' = j
    · subst e2
      rw [if_pos rfl, Array.getElem?_setIfInBounds, if_pos rfl, if_pos]
      exact (Array.getElem?_eq_some_iff.1 (hl k x hx j' hj)).1
    · rw [if_neg e2, Array.getElem?_setIfInBounds, if_neg (by omega)]
      exact hl k x hx j' hj'
  · rw [if_neg e] at hx'
    rw [Array.getElem?_setIfInBounds, if_neg (by omega)]
    exact hl k' x' hx' j' hj'
theorem OwnL.other {w : World} {g : Nat} {t : TypeId} {ls : List Ly} (h : OwnL w g t ls) {p : Addr} (hp : g ≠ p.block) (u : Value) : OwnL (w.setCell p u) g t ls := h.of_block (Below.heap_setCell w p u g hp)
theorem OwnL.alloc {w : World} {g : Nat} {t : TypeId} {ls : List Ly} (h : OwnL w g t ls) (o : Obj) : OwnL (w.alloc o) g t ls := h.of_block (Below.heap_alloc w o g h.lt)
theorem OwnL.drewN {w : World} {g : Nat} {t : TypeId} {ls : List Ly} (h : OwnL w g t ls) (n : Nat) : OwnL (w.drewN n) g t ls := h
theorem OwnL.below {w w' : World} {g : Nat} {t : TypeId} {ls : List Ly} (h : OwnL w g t ls) (hb : Below w.heap.size w w') : OwnL w' g t ls := h.of_block (hb.block g h.lt)
/-! ### a whole layer stored -/
def store7 (w : World) (g o : Nat) (x : Ly) : World :=
  ((((((w.setCell ⟨g, o, none⟩ (.int .i64 x.form)).setCell ⟨g, o + 1, none⟩ (.int .i64 x.ice)).setCell ⟨g, o + 2, none⟩ (.int .i64 x.water)).setCell ⟨g, o + 3, none⟩ (.int .i64 x.dens)).setCell ⟨g, o + 4, none⟩ (.int .i64 x.deg)).setCell ⟨g, o + 5, none⟩ (.int .i64 x.hard)).setCell ⟨g, o + 6, none⟩ (.int .i64 x.age)
def arr7 (c : Array Value) (o : Nat) (x : Ly) : Array Value :=
  ((((((c.setIfInBounds o (.int .i64 x.form)).setIfInBounds (o + 1) (.int .i64 x.ice)).setIfInBounds (o + 2) (.int .i64 x.water)).setIfInBounds (o + 3) (.int .i64 x.dens)).setIfInBounds (o + 4) (.int .i64 x.deg)).setIfInBounds (o + 5) (.int .i64 x.hard)).setIfInBounds (o + 6) (.int .i64 x.age)
theorem arr7_size (c : Array Value) (o : Nat) (x : Ly) : (arr7 c o x).size = c.size := by simp [arr7]
theorem arr7_other (c : Array Value) (o i : Nat) (x : Ly) (h : i < o ∨ o + 7 ≤ i) : (arr7 c o x)[i]? = c[i]? := by
  unfold arr7
  simp only [Array.getElem?_setIfInBounds]
  rw [if_neg (by omega), if_neg (by omega), if_neg (by omega), if_neg (by omega), if_neg (by omega), if_neg (by omega), if_neg (by omega)]
theorem arr7_at (c : Array Value) (o : Nat) (x : Ly) (h : o + 7 ≤ c.size) (j : Nat) (hj : j < 7) : (arr7 c o x)[o + j]? = some (.int .i64 (x.get j)) := by
  unfold arr7
  simp only [Array.getElem?_setIfInBounds, Array.size_setIfInBounds]
  match j, hj with
  | 0, _ => rw [if_neg (by omega), if_neg (by omega), if_neg (by omega), if_neg (by omega), if_neg (by omega), if_neg (by omega), if_pos (by omega), if_pos (by omega)]; rfl
  | 1, _ => rw [if_neg (by omega), if_neg (by omega), if_neg (by omega), if_neg (by omega), if_neg (by omega), if_pos (by omega), if_pos (by omega)]; rfl
  | 2, _ => rw [if_neg (by omega), if_neg (by omega), if_neg (by omega), if_neg (by omega), if_pos (by omega), if_pos (by omega)]; rfl
  | 3, _ => rw [if_neg (by omega), if_neg (by omega), if_neg (by omega), if_pos (by omega), if_pos (by omega)]; rfl
  | 4, _ => rw [if_neg (by omega), if_neg (by omega), if_pos (by omega), if_pos (by omega)]; rfl
  | 5, _ => rw [if_neg (by omega), if_pos (by omega), if_pos (by omega)]; rfl
  | 6, _ => rw [if_pos (by omega), if_pos (by omega)]; rfl
theorem put7_same {w : World} {g : Nat} {c : Array Value} {t : TypeId} (o : Nat) (x : Ly) (h : w.heap[g]? = some (.cells c t (0, 0))) : (store7 w g o x).heap[g]? = some (.cells (arr7 c o x) t (0, 0)) := by
  unfold store7 arr7
  exact heap_setCell_same _ g _ _ t _ (heap_setCell_same _ g _ _ t _ (heap_setCell_same _ g _ _ t _ (heap_setCell_same _ g _ _ t _ (heap_setCell_same _ g _ _ t _ (heap_setCell_same _ g _ _ t _ (heap_setCell_same _ g _ _ t _ h))))))
theorem put7_below {a w : World} {B g : Nat} (h : Below B a w) (hg : B ≤ g) (o : Nat) (x : Ly) : Below B a (store7 w g o x) := by
  unfold store7
  exact ((((((h.setCell (p := ⟨g, _, none⟩) hg _).setCell (p := ⟨g, _, none⟩) hg _).setCell (p := ⟨g, _, none⟩) hg _).setCell (p := ⟨g, _, none⟩) hg _).setCell (p := ⟨g, _, none⟩) hg _).setCell (p := ⟨g, _, none⟩) hg _).setCell (p := ⟨g, _, none⟩) hg _
theorem put7_other {w : World} {g b : Nat} (h : b ≠ g) (o : Nat) (x : Ly) : (store7 w g o x).heap[b]? = w.heap[b]? := by
  unfold store7
  simp only [Below.heap_setCell _ _ _ b (show b ≠ (⟨g, _, none⟩ : Addr).block from h)]
attribute [local irreducible] arr7
theorem OwnL.stored7 {w : World} {g : Nat} {t : TypeId} {ls : List Ly} (h : OwnL w g t ls) {k : Nat} {x : Ly} (hx : ls[k]? = some x) (y : Ly) : OwnL (store7 w g (k * 7) y) g t (ls.set k y) := by
  obtain ⟨c, hc, hl⟩ := h
  have hk : k < ls.length := (List.getElem?_eq_some_iff.1 hx).1
  have hsz : k * 7 + 7 ≤ c.size := by
    have := (Array.getElem?_eq_some_iff.1 (hl k x hx 6 (by omega))).1
    omega
  refine ⟨_, put7_same (k * 7) y hc, fun k' x' hx' j hj => ?_⟩
  rw [List.getElem?_set] at hx'
  by_cases e : k = k'
  · subst e
    rw [if_pos rfl, if_pos hk] at hx'
    injection hx' with hx'
    subst hx'
    exact arr7_at c (k * 7) y hsz j hj
  · rw [if_neg e] at hx'
    rw [arr7_other c (k * 7) (k' * 7 + j) y (by omega)]
    exact hl k' x' hx' j hj
/-! ### the law's helpers -/
theorem szLayerS_no (A : Option Addr) (n c : Nat) (left : Int) (w : World) (h : left < n) (h0 : 0 ≤ left) (h1 : left ≤ 1048576) (hn : n ≤ maxLen) : Calls Try.prog 4 #[.slice A n c, .int .i64 left] w fun e w' => e = .returned (.int .i64 (-1)) ∧ w = w' := by
  unfold maxLen at hn
  go_enter Try.func4, Try.ntmps4
  go_wp2
  go_ret
  exact ⟨rfl, rfl⟩
theorem szLayerS_yes (A : Option Addr) (n c : Nat) (left : Int) (w : World) (h : (n : Int) ≤ left) (h1 : left ≤ 1048576) : Calls Try.prog 4 #[.slice A n c, .int .i64 left] w fun e w' => e = .returned (.int .i64 (left - n)) ∧ w = w' := by
  go_enter Try.func4, Try.ntmps4
  go_wp2
  go_ret
  exact ⟨rfl, rfl⟩
theorem info_ly : (Try.prog.info? 34).map (fun i => (i.zero, i.size, i.bytes)) = some (some (.agg #[.int .i64 0, .int .i64 0, .int .i64 0, .int .i64 0, .int .i64 0, .int .i64 0, .int .i64 0]), 7, 56) := by kernel_rfl
def zly : Array Value := (Value.agg #[.int .i64 0, .int .i64 0, .int .i64 0, .int .i64 0, .int .i64 0, .int .i64 0, .int .i64 0]).cells
theorem run_mk_ly (n : Nat) (hn : n ≤ 1048576) (w : World) : (Instr.makeSlice 24 (.int .i64 (n : Int)) (.int .i64 (n : Int))).run Try.prog w = .ok (.slice (some ⟨w.heap.size, 0, none⟩) n n) (w.alloc (.cells (madeCells zly (n * 7)) 34)) := by
  obtain ⟨i, hi, hz, hs, hb⟩ := info_parts info_ly
  have hr := run_make (P := Try.prog) w 24 34 i _ Try.underlying24 hi hz .i64 .i64 n n (by omega) (Int.le_refl _) (by rw [hb]; omega) (by omega)
  simp only [Int.toNat_natCast, hs] at hr
  exact hr
/-- A row of the call's own of n layers, of which the first k are known. -/
def MadeL (w : World) (g : Nat) (t : TypeId) (n k : Nat) (ls : List Ly) : Prop := ∃ c : Array Value, w.heap[g]? = some (.cells c t (0, 0)) ∧ c.size = n * 7 ∧ ∀ i, i < k → ∀ x, ls[i]? = some x → ∀ j, j < 7 → c[i * 7 + j]? = some (.int .i64 (x.get j))
theorem MadeL.new (w : World) (t : TypeId) (n : Nat) (ls : List Ly) : MadeL (w.alloc (.cells (madeCells zly (n * 7)) t)) w.heap.size t n 0 ls := ⟨_, heap_alloc_new w _, size_madeCells _ _, fun i hi => absurd hi (by omega)⟩
theorem MadeL.of_block {w w' : World} {g n k : Nat} {t : TypeId} {ls : List Ly} (h : MadeL w g t n k ls) (hb : w'.heap[g]? = w.heap[g]?) : MadeL w' g t n k ls := by
  obtain ⟨c, hc, hs, hl⟩ := h
  exact ⟨c, hb.trans hc, hs, hl⟩
theorem MadeL.lt {w : World} {g n k : Nat} {t : TypeId} {ls : List Ly} (h : MadeL w g t n k ls) : g < w.heap.size := by
  obtain ⟨c, hc, _⟩ := h
  exact (Array.getElem?_eq_some_iff.1 hc).1
theorem MadeL.done {w : World} {g n : Nat} {t : TypeId} {ls : List Ly} (h : MadeL w g t n ls.length ls) : OwnL w g t ls := by
  obtain ⟨c, hc, _, hl⟩ := h
  exact ⟨c, hc, fun k x hx j hj => hl k (List.getElem?_eq_some_iff.1 hx).1 x hx j hj⟩
theorem MadeL.cells {w : World} {g n k : Nat} {t : TypeId} {ls : List Ly} (h : MadeL w g t n k ls) (hk : k < n) : ∃ v0 v1 v2 v3 v4 v5 v6, w.cell? ⟨g, k * 7, none⟩ = some v0 ∧ w.cell? ⟨g, k * 7 + 1, none⟩ = some v1 ∧ w.cell? ⟨g, k * 7 + 2, none⟩ = some v2 ∧ w.cell? ⟨g, k * 7 + 3, none⟩ = some v3 ∧ w.cell? ⟨g, k * 7 + 4, none⟩ = some v4 ∧ w.cell? ⟨g, k * 7 + 5, none⟩ = some v5 ∧ w.cell? ⟨g, k * 7 + 6, none⟩ = some v6 := by
  obtain ⟨c, hc, hs, hl⟩ := h
  have hh : ∀ j, j < 7 → ∃ v, w.cell? ⟨g, k * 7 + j, none⟩ = some v := fun j hj => ⟨c[k * 7 + j]'(by omega), (cell_of_row w g _ c t (0, 0) hc).trans (Array.getElem?_eq_getElem (by omega))⟩
  obtain ⟨v0, e0⟩ := hh 0 (by omega)
  obtain ⟨v1, e1⟩ := hh 1 (by omega)
  obtain ⟨v2, e2⟩ := hh 2 (by omega)
  obtain ⟨v3, e3⟩ := hh 3 (by omega)
  obtain ⟨v4, e4⟩ := hh 4 (by omega)
  obtain ⟨v5, e5⟩ := hh 5 (by omega)
  obtain ⟨v6, e6⟩ := hh 6 (by omega)
  exact ⟨v0, v1, v2, v3, v4, v5, v6, e0, e1, e2, e3, e4, e5, e6⟩
theorem MadeL.frozen {w : World} {g n k : Nat} {t : TypeId} {ls : List Ly} (h : MadeL w g t n k ls) (j : Nat) : w.frozen? ⟨g, j, none⟩ = false := by
  obtain ⟨c, hc, _⟩ := h
  exact frozen_of_row w g j c t hc
theorem MadeL.stored7 {w : World} {g n k : Nat} {t : TypeId} {ls : List Ly} (h : MadeL w g t n k ls) (hk : k < n) {x : Ly} (hx : ls[k]? = some x) : MadeL (store7 w g (k * 7) x) g t n (k + 1) ls := by
  obtain ⟨c, hc, hs, hl⟩ := h
  refine ⟨_, put7_same (k * 7) x hc, by rw [arr7_size, hs], fun i hi y hy j hj => ?_⟩
  by_cases e : i = k
  · subst e
    rw [hx] at hy
    injection hy with hy
    subst hy
    exact arr7_at c (i * 7) x (by omega) j hj
  · rw [arr7_other c (k * 7) (i * 7 + j) x (by omega)]
    exact hl i (by omega) y hy j hj
theorem toLayerS_any (A : Option Addr) (c : Nat) (ls : List Ly) (w : World) (hr : RdL w A ls) (hn : ls.length ≤ 1048576) :
    Calls Try.prog 6 #[.slice A ls.length c] w fun e w' => e = .returned (.slice (some ⟨w.heap.size, 0, none⟩) ls.length ls.length) ∧ OwnL w' w.heap.size 34 ls ∧ Below w.heap.size w w' := by
  have hmk := run_mk_ly ls.length hn
  go_enter Try.func6, Try.ntmps6
  go_wp2_with fail
  clear hmk
  have hM0 := MadeL.new w 34 ls.length ls
  have hb0 := bl_alloc (Below.refl w.heap.size w) (.cells (madeCells zly (ls.length * 7)) 34)
  go_loopw [4] (fun i wr => ∃ k : Nat, k ≤ ls.length ∧ i = .int .i64 k ∧ MadeL wr w.heap.size 34 ls.length k ls ∧ Below w.heap.size w wr) (fun i _ => ls.length - (intOf i).toNat)
  case atStart => exact ⟨0, Nat.zero_le _, rfl, hM0, hb0⟩
  case round =>
    obtain ⟨k, hk, rfl, hM, hb⟩ := hrel
    clear hM0 hb0
    by_cases hlt : k < ls.length
    · obtain ⟨g, o, rfl, hx⟩ := (hr.below hb).at_ k hlt
      obtain ⟨c0, c1, c2, c3, c4, c5, c6⟩ := hx
      go_wp2_with fail
      clear c0 c1 c2 c3 c4 c5 c6
      refine (toLayer_any _ _).mono ?_
      rintro e w1 ⟨rfl, hb1⟩
      have hM1 : MadeL w1 w.heap.size 34 ls.length k ls := hM.of_block (hb1.block _ hM.lt)
      obtain ⟨v0, v1, v2, v3, v4, v5, v6, e0, e1, e2, e3, e4, e5, e6⟩ := hM1.cells hlt
      have f0 := hM1.frozen (k * 7)
      have f1 := hM1.frozen (k * 7 + 1)
      have f2 := hM1.frozen (k * 7 + 2)
      have f3 := hM1.frozen (k * 7 + 3)
      have f4 := hM1.frozen (k * 7 + 4)
      have f5 := hM1.frozen (k * 7 + 5)
      have f6 := hM1.frozen (k * 7 + 6)
      go_wp2_with fail
      clear e0 e1 e2 e3 e4 e5 e6 f0 f1 f2 f3 f4 f5 f6
      go_roundw
      case rel =>
        exact ⟨k + 1, by omega, by go_num, hM1.stored7 hlt (List.getElem?_eq_getElem hlt), put7_below (hb.trans (hb1.mono hb.size)) (Nat.le_refl _) _ _⟩
      case measure => simp [intOf]; omega
    · obtain rfl : k = ls.length := by omega
      go_wp2_with fail
      go_ret
      exact ⟨rfl, hM.done, hb⟩
def eqLy (x y : Ly) : Bool := decide (x.form = y.form ∧ x.ice = y.ice ∧ x.water = y.water ∧ x.dens = y.dens ∧ x.deg = y.deg ∧ x.hard = y.hard ∧ x.age = y.age)
theorem eqLayer_same (x : Ly) (w : World) : Calls Try.prog 21 #[.agg #[.int .i64 x.form, .int .i64 x.ice, .int .i64 x.water, .int .i64 x.dens, .int .i64 x.deg, .int .i64 x.hard, .int .i64 x.age], .agg #[.int .i64 x.form, .int .i64 x.ice, .int .i64 x.water, .int .i64 x.dens, .int .i64 x.deg, .int .i64 x.hard, .int .i64 x.age]] w fun e w' => e = .returned (.bool true) ∧ Below w.heap.size w w' := by
  go_enter Try.func21, Try.ntmps21
  go_wp2
  go_ret
  exact ⟨rfl, by repeat (first | exact Below.refl _ _ | apply bl_alloc)⟩
theorem eqLayerS_same (A B : Option Addr) (c d : Nat) (ls : List Ly) (w : World) (hA : RdL w A ls) (hB : RdL w B ls) (hn : ls.length ≤ 1048576) :
    Calls Try.prog 8 #[.slice A ls.length c, .slice B ls.length d] w fun e w' => e = .returned (.bool true) ∧ Below w.heap.size w w' := by
  go_enter Try.func8, Try.ntmps8
  go_wp2_with fail
  go_loopw [5] (fun i wr => ∃ k : Nat, k ≤ ls.length ∧ i = .int .i64 k ∧ Below w.heap.size w wr) (fun i _ => ls.length - (intOf i).toNat)
  case atStart => exact ⟨0, Nat.zero_le _, rfl, Below.refl _ _⟩
  case round =>
    obtain ⟨k, hk, rfl, hb⟩ := hrel
    by_cases hlt : k < ls.length
    · obtain ⟨g, o, rfl, hx⟩ := (hA.below hb).at_ k hlt
      obtain ⟨g', o', rfl, hy⟩ := (hB.below hb).at_ k hlt
      obtain ⟨c0, c1, c2, c3, c4, c5, c6⟩ := hx
      obtain ⟨d0, d1, d2, d3, d4, d5, d6⟩ := hy
      go_wp2_with fail
      go_still_tail 8, (by kernel_rfl)
      go_wp2_with fail
      clear c0 c1 c2 c3 c4 c5 c6 d0 d1 d2 d3 d4 d5 d6
      refine (eqLayer_same _ _).mono ?_
      rintro e w1 ⟨rfl, hb1⟩
      go_wp2_with fail
      go_roundw
      case rel => exact ⟨k + 1, by omega, by go_num, bl_trans hb.drew hb1⟩
      case measure => simp [intOf]; omega
    · obtain rfl : k = ls.length := by omega
      go_wp2_with fail
      go_ret
      exact ⟨rfl, hb⟩
end Go.Proofs.Ythlandlpjhdbdaa
