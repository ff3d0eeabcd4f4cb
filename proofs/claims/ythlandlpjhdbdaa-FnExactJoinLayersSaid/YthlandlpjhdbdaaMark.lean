/- slices.Clone of a list of layers; the law's marking of a result's cells and its check of the marks. No condition. -/
import Derived.Test.YthlandlpjhdbdaaLst
import Derived.WalkSpells
namespace Go.Proofs.Ythlandlpjhdbdaa
open Go.ChangeShapes Go.WideShapes Go.ChangeAt Go.RowKit Go.Joins Go.Deep
set_option linter.unusedVariables false
attribute [local irreducible] arr7
/-- The call returns a list of its own that reads as ls. -/
def GivesL (w : World) (ls : List Ly) (e : Ending) (w' : World) : Prop := ∃ v, e = .returned v ∧ OwnS w' w.heap.size v ls ∧ Below w.heap.size w w'
/-- The call returns a list of its own that reads as R, and a code. -/
def GivesLC (w : World) (R : List Ly) (code : Int) (e : Ending) (w' : World) : Prop := ∃ v, e = .returned (.tuple #[v, .int .i64 code]) ∧ OwnS w' w.heap.size v R ∧ Below w.heap.size w w'
def mk7 (a : Int) : Ly := ⟨a, a + 1, a + 2, a + 3, a + 4, a + 5, a + 6⟩
def markL (k : Int) (n : Nat) : List Ly := (List.range n).map fun i : Nat => mk7 (k + 7 * (i : Int))
theorem LyAt.m7 {w : World} {g o : Nat} {a : Int} (h : LyAt w g o (mk7 a)) : w.cell? ⟨g, o, none⟩ = some (.int .i64 a) ∧ w.cell? ⟨g, o + 1, none⟩ = some (.int .i64 (a + 1)) ∧ w.cell? ⟨g, o + 2, none⟩ = some (.int .i64 (a + 2)) ∧ w.cell? ⟨g, o + 3, none⟩ = some (.int .i64 (a + 3)) ∧ w.cell? ⟨g, o + 4, none⟩ = some (.int .i64 (a + 4)) ∧ w.cell? ⟨g, o + 5, none⟩ = some (.int .i64 (a + 5)) ∧ w.cell? ⟨g, o + 6, none⟩ = some (.int .i64 (a + 6)) :=
  ⟨h.c0, h.c1, h.c2, h.c3, h.c4, h.c5, h.c6⟩
theorem markL_len (k : Int) (n : Nat) : (markL k n).length = n := by simp [markL]
theorem markL_at (k : Int) (n i : Nat) (h : i < n) : (markL k n)[i]? = some (mk7 (k + 7 * i)) := by
  simp [markL, h]
/-- the first m layers are marked, the others are there still -/
theorem OwnL.size {w : World} {g : Nat} {t : TypeId} {ls : List Ly} (h : OwnL w g t ls) : ∃ c : Array Value, w.heap[g]? = some (.cells c t (0, 0)) ∧ ls.length * 7 ≤ c.size := by
  obtain ⟨c, hc, hl⟩ := h
  refine ⟨c, hc, ?_⟩
  rcases Nat.eq_zero_or_pos ls.length with e | e
  · omega
  · have := (Array.getElem?_eq_some_iff.1 (hl (ls.length - 1) _ (List.getElem?_eq_getElem (by omega)) 6 (by omega))).1
    omega
def HalfL (w : World) (g : Nat) (t : TypeId) (n m : Nat) (ms : List Ly) : Prop := ∃ c : Array Value, w.heap[g]? = some (.cells c t (0, 0)) ∧ n * 7 ≤ c.size ∧ (∀ i, i < n → ∃ y : Ly, ∀ j, j < 7 → c[i * 7 + j]? = some (.int .i64 (y.get j))) ∧ ∀ i, i < m → ∀ x, ms[i]? = some x → ∀ j, j < 7 → c[i * 7 + j]? = some (.int .i64 (x.get j))
theorem HalfL.new {w : World} {g : Nat} {t : TypeId} {ls : List Ly} (h : OwnL w g t ls) (ms : List Ly) : HalfL w g t ls.length 0 ms := by
  obtain ⟨c, hc, hs⟩ := h.size
  obtain ⟨c', hc', hl⟩ := h
  rw [hc] at hc'
  injection hc' with hc'
  injection hc' with e1 _ _
  subst e1
  exact ⟨c, hc, hs, fun i hi => ⟨ls[i], fun j hj => hl i _ (List.getElem?_eq_getElem hi) j hj⟩, fun i hi => absurd hi (by omega)⟩
theorem HalfL.done {w : World} {g n : Nat} {t : TypeId} {ms : List Ly} (h : HalfL w g t n n ms) (hn : ms.length = n) : OwnL w g t ms := by
  obtain ⟨c, hc, _, _, hl⟩ := h
  exact ⟨c, hc, fun k x hx j hj => hl k (by have := (List.getElem?_eq_some_iff.1 hx).1; omega) x hx j hj⟩
theorem HalfL.lt {w : World} {g n m : Nat} {t : TypeId} {ms : List Ly} (h : HalfL w g t n m ms) : g < w.heap.size := by
  obtain ⟨c, hc, _⟩ := h
  exact (Array.getElem?_eq_some_iff.1 hc).1
theorem HalfL.cells {w : World} {g n m : Nat} {t : TypeId} {ms : List Ly} (h : HalfL w g t n m ms) {i : Nat} (hi : i < n) : ∃ y, LyAt w g (i * 7) y := by
  obtain ⟨c, hc, _, hf, _⟩ := h
  obtain ⟨y, hy⟩ := hf i hi
  exact ⟨y, (cell_of_row w g _ c t (0, 0) hc).trans (hy 0 (by omega)), (cell_of_row w g _ c t (0, 0) hc).trans (hy 1 (by omega)), (cell_of_row w g _ c t (0, 0) hc).trans (hy 2 (by omega)), (cell_of_row w g _ c t (0, 0) hc).trans (hy 3 (by omega)), (cell_of_row w g _ c t (0, 0) hc).trans (hy 4 (by omega)), (cell_of_row w g _ c t (0, 0) hc).trans (hy 5 (by omega)), (cell_of_row w g _ c t (0, 0) hc).trans (hy 6 (by omega))⟩
theorem HalfL.frozen {w : World} {g n m : Nat} {t : TypeId} {ms : List Ly} (h : HalfL w g t n m ms) (j : Nat) : w.frozen? ⟨g, j, none⟩ = false := by
  obtain ⟨c, hc, _⟩ := h
  exact frozen_of_row w g j c t hc
theorem HalfL.stored {w : World} {g n m : Nat} {t : TypeId} {ms : List Ly} (h : HalfL w g t n m ms) (hm : m < n) {x : Ly} (hx : ms[m]? = some x) : HalfL (store7 w g (m * 7) x) g t n (m + 1) ms := by
  obtain ⟨c, hc, hs, hf, hl⟩ := h
  refine ⟨_, put7_same (m * 7) x hc, by rw [arr7_size]; exact hs, fun i hi => ?_, fun i hi y hy j hj => ?_⟩
  · by_cases e : i = m
    · subst e
      exact ⟨x, fun j hj => arr7_at c (i * 7) x (by omega) j hj⟩
    · obtain ⟨y, hy⟩ := hf i hi
      exact ⟨y, fun j hj => by rw [arr7_other c (m * 7) (i * 7 + j) x (by omega)]; exact hy j hj⟩
  · by_cases e : i = m
    · subst e
      rw [hx] at hy
      injection hy with hy
      subst hy
      exact arr7_at c (i * 7) x (by omega) j hj
    · rw [arr7_other c (m * 7) (i * 7 + j) x (by omega)]
      exact hl i (by omega) y hy j hj
theorem only_store7 {w a : World} {g : Nat} (h : w.grownBy a (some g)) (o : Nat) (x : Ly) : w.grownBy (store7 a g o x) (some g) := by
  have hp := put7_below (Below.refl 0 a) (Nat.zero_le g) o x
  refine ⟨hp.os.trans h.os, hp.tape.trans h.tape, hp.output.trans h.output, Nat.le_trans h.size hp.size, fun b hb hne => ?_⟩
  · exact (put7_other (fun e => hne (by rw [e])) o x).trans (h.block b hb hne)
/-- What marking leaves. -/
def Marked (w : World) (k : Int) (A : Option Addr) (ls : List Ly) (e : Ending) (w' : World) : Prop := e = .returned (.int .i64 (k + 7 * ls.length)) ∧ ((ls = [] ∧ w = w') ∨ ls ≠ [] ∧ ∃ g, A = some ⟨g, 0, none⟩ ∧ OwnL w' g 34 (markL k ls.length) ∧ w.grownBy w' (some g))
def MarkR (w : World) (g : Nat) (k : Int) (n : Nat) (q i : Value) (wr : World) : Prop := ∃ (m : Nat) (a : Int), m ≤ n ∧ i = .int .i64 m ∧ q = .int .i64 a ∧ Hid (a = k + 7 * m) ∧ 0 ≤ a ∧ a ≤ 8000000 ∧ HalfL wr g 34 n m (markL k n) ∧ w.grownBy wr (some g)
theorem mark_own (g c : Nat) (ls : List Ly) (k : Int) (w : World) (h : OwnL w g 34 ls) (hn : ls.length ≤ 1048576) (h0 : 0 ≤ k) (h1 : k ≤ 1000) :
    Calls Try.prog 9 #[.slice (some ⟨g, 0, none⟩) ls.length c, .int .i64 k] w fun e w' => e = .returned (.int .i64 (k + 7 * ls.length)) ∧ OwnL w' g 34 (markL k ls.length) ∧ w.grownBy w' (some g) := by
  have hM0 := HalfL.new h (markL k ls.length)
  go_enter Try.func9, Try.ntmps9
  go_wp2_with fail
  go_loopw [1, 5] (MarkR w g k ls.length) (fun _ i _ => ls.length - (intOf i).toNat)
  case atStart => exact ⟨0, k, Nat.zero_le _, rfl, rfl, by show k = _; simp, h0, by omega, hM0, ⟨rfl, rfl, rfl, Nat.le_refl _, fun _ _ _ => rfl⟩⟩
  case round =>
    obtain ⟨m, a, hm, rfl, rfl, ha, a0, a1, hM, hg⟩ := hrel
    clear hM0
    by_cases hlt : m < ls.length
    · obtain ⟨y, c0, c1, c2, c3, c4, c5, c6⟩ := hM.cells hlt
      have f0 := hM.frozen (m * 7)
      have f1 := hM.frozen (m * 7 + 1)
      have f2 := hM.frozen (m * 7 + 2)
      have f3 := hM.frozen (m * 7 + 3)
      have f4 := hM.frozen (m * 7 + 4)
      have f5 := hM.frozen (m * 7 + 5)
      have f6 := hM.frozen (m * 7 + 6)
      have q2 : a + 1 + 1 = a + 2 := by omega
      have q3 : a + 2 + 1 = a + 3 := by omega
      have q4 : a + 3 + 1 = a + 4 := by omega
      have q5 : a + 4 + 1 = a + 5 := by omega
      have q6 : a + 5 + 1 = a + 6 := by omega
      have q7 : a + 6 + 1 = a + 7 := by omega
      go_wp2_with fail
      clear c0 c1 c2 c3 c4 c5 c6 f0 f1 f2 f3 f4 f5 f6 q2 q3 q4 q5 q6 q7
      go_roundw
      case rel =>
        have hat := markL_at k ls.length m hlt
        rw [← ha.out] at hat
        have HM : MarkR w g k ls.length (.int .i64 (a + 7)) (.int .i64 ((m + 1 : Nat) : Int)) (store7 wr g (m * 7) (mk7 a)) :=
          ⟨m + 1, a + 7, by omega, rfl, rfl, by show _ = _; have := ha.out; push_cast; omega, by omega, by have := ha.out; omega, hM.stored hlt hat, only_store7 hg (m * 7) (mk7 a)⟩
        exact HM
      case measure => simp [intOf]; omega
    · obtain rfl : m = ls.length := by omega
      go_wp2_with fail
      go_ret
      exact ⟨ret_int ha.out, hM.done (markL_len _ _), hg⟩
theorem mark_nil (A : Option Addr) (c : Nat) (k : Int) (w : World) :
    Calls Try.prog 9 #[.slice A 0 c, .int .i64 k] w fun e w' => e = .returned (.int .i64 k) ∧ w = w' := by
  go_enter Try.func9, Try.ntmps9
  go_wp2_with fail
  go_loop [1, 5] (fun q i => q = .int .i64 k ∧ i = .int .i64 0) (fun _ _ => 0)
  case atStart => exact ⟨rfl, rfl⟩
  case round =>
    obtain ⟨rfl, rfl⟩ := hrel
    go_wp2_with fail
    go_ret
    exact ⟨rfl, rfl⟩
theorem mark_any (A : Option Addr) (c : Nat) (ls : List Ly) (k : Int) (w : World) (B : Nat) (h : OwnO w B A ls) (hn : ls.length ≤ 1048576) (h0 : 0 ≤ k) (h1 : k ≤ 1000) :
    Calls Try.prog 9 #[.slice A ls.length c, .int .i64 k] w (Marked w k A ls) := by
  by_cases hne : ls = []
  · subst hne
    exact (mark_nil A c k w).mono fun e w' ⟨he, hw⟩ => ⟨by rw [he]; simp, .inl ⟨rfl, hw⟩⟩
  rcases h with rfl | ⟨g, rfl, _, h⟩
  · exact absurd rfl hne
  · exact (mark_own g c ls k w h hn h0 h1).mono fun e w' ⟨he, h2, h3⟩ => ⟨he, .inr ⟨hne, g, rfl, h2, h3⟩⟩
theorem Marked.use {w w' : World} {k : Int} {A : Option Addr} {ls : List Ly} {e : Ending} {B : Nat} (h : Marked w k A ls e w') (ho : OwnO w B A ls) (hB : B ≤ w.heap.size) :
    e = .returned (.int .i64 (k + 7 * ls.length)) ∧ OwnO w' B A (markL k ls.length) ∧ Below B w w' := by
  obtain ⟨he, h⟩ := h
  rcases h with ⟨rfl, rfl⟩ | ⟨hne, g, rfl, hm, hg⟩
  · exact ⟨he, .inl rfl, Below.refl _ _⟩
  · rcases ho with rfl | ⟨g', e', hBg, ho⟩
    · exact absurd rfl hne
    · injection e' with e'
      injection e' with e1 _ _
      subst e1
      exact ⟨he, .inr ⟨g, rfl, hBg, hm⟩, ⟨hg.os, hg.tape, hg.output, hg.size, fun b hb => hg.block b (by omega) (fun e => by injection e with e; omega)⟩⟩
def HeldR (k : Int) (n : Nat) (q i : Value) : Prop := ∃ (m : Nat) (a : Int), m ≤ n ∧ i = .int .i64 m ∧ q = .int .i64 a ∧ Hid (a = k + 7 * m) ∧ 0 ≤ a ∧ a ≤ 8000000
theorem held_any (A : Option Addr) (c : Nat) (n : Nat) (k : Int) (w : World) (h : RdL w A (markL k n)) (hn : n ≤ 1048576) (h0 : 0 ≤ k) (h1 : k ≤ 1000) :
    Calls Try.prog 10 #[.slice A n c, .int .i64 k] w fun e w' => e = .returned (.int .i64 (k + 7 * n)) ∧ w = w' := by
  go_enter Try.func10, Try.ntmps10
  go_wp2_with fail
  go_loop [1, 5] (HeldR k n) (fun _ i => n - (intOf i).toNat)
  case atStart => exact ⟨0, k, Nat.zero_le _, rfl, rfl, by show k = _; simp, h0, by omega⟩
  case round =>
    obtain ⟨m, a, hm, rfl, rfl, ha, a0, a1⟩ := hrel
    by_cases hlt : m < n
    · have hat := markL_at k n m hlt
      rw [← ha.out] at hat
      obtain ⟨g, o, rfl, hx⟩ := h m _ hat
      clear hat
      obtain ⟨c0, c1, c2, c3, c4, c5, c6⟩ := hx.m7
      have q2 : a + 1 + 1 = a + 2 := by omega
      have q3 : a + 2 + 1 = a + 3 := by omega
      have q4 : a + 3 + 1 = a + 4 := by omega
      have q5 : a + 4 + 1 = a + 5 := by omega
      have q6 : a + 5 + 1 = a + 6 := by omega
      have q7 : a + 6 + 1 = a + 7 := by omega
      go_wp2_with fail
      clear q2 q3 q4 q5 q6 q7
      go_round
      case rel => exact ⟨m + 1, a + 7, by omega, by go_num, rfl, by show _ = _; have := ha.out; push_cast; omega, by omega, by have := ha.out; omega⟩
      case measure => simp [intOf]; omega
    · obtain rfl : m = n := by omega
      go_wp2_with fail
      go_ret
      exact ⟨ret_int ha.out, rfl⟩
end Go.Proofs.Ythlandlpjhdbdaa
