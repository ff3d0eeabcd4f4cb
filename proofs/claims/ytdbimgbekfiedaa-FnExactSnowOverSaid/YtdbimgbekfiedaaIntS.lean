/- Slices of int64 in memory: how one reads as a list, rows of the call's own, append, the opening of an argument, and the contracts of the law's helpers. No condition. -/
import Derived.Test.YtdbimgbekfiedaaBase
import Derived.StillTailTactics
import Derived.OwnWalk
import Derived.Laws.CopyRow
import Derived.Laws.MakeOwn
import Derived.Deep.QuietTactic
import Derived.BigQuiet
import Derived.Deep.Slices
import Derived.Deep.Fields
import Derived.ChangeSame
import Derived.ChangeSlices
import Derived.Maps.AppendAt
import Derived.Deep.AppendLies
import Derived.Laws.OwnMore
import Derived.RegionTactic
namespace Go.Proofs.Ytdbimgbekfiedaa
open Go.ChangeShapes Go.WideShapes Go.ChangeAt Go.RowKit Go.Deep
set_option linter.unusedVariables false
def RdI (w : World) (A : Option Addr) (ns : List Int) : Prop := ∀ (k : Nat) (x : Int), ns[k]? = some x → ∃ g o, A = some ⟨g, o, none⟩ ∧ w.cell? ⟨g, o + k, none⟩ = some (.int .i64 x)
theorem RdI.keep {w w' : World} {A : Option Addr} {ns : List Int} (h : RdI w A ns) (hk : ∀ g, g < w.heap.size → w'.heap[g]? = w.heap[g]?) : RdI w' A ns := fun k x hx => by
  obtain ⟨g, o, rfl, hl⟩ := h k x hx
  exact ⟨g, o, rfl, (World.cell?_of_block (a := ⟨g, _, none⟩) (hk g (World.block_lt_of_cell? w _ hl))).trans hl⟩
theorem RdI.below {w w' : World} {A : Option Addr} {ns : List Int} (h : RdI w A ns) (hb : Below w.heap.size w w') : RdI w' A ns := h.keep hb.block
theorem RdI.drewN {w : World} {A : Option Addr} {ns : List Int} (h : RdI w A ns) (n : Nat) : RdI (w.drewN n) A ns := h.keep fun _ _ => rfl
theorem RdI.drew {w : World} {A : Option Addr} {ns : List Int} (h : RdI w A ns) : RdI w.drew A ns := h.keep fun _ _ => rfl
theorem RdI.nil (w : World) (A : Option Addr) : RdI w A [] := fun k x hx => by simp at hx
theorem RdI.at_ {w : World} {A : Option Addr} {ns : List Int} (h : RdI w A ns) (k : Nat) (hk : k < ns.length) : ∃ g o, A = some ⟨g, o, none⟩ ∧ w.cell? ⟨g, o + k, none⟩ = some (.int .i64 ns[k]) := h k _ (List.getElem?_eq_getElem hk)
theorem RdI.of_none {w : World} {ns : List Int} (h : RdI w none ns) : ns = [] := by
  match ns with
  | [] => rfl
  | x :: l =>
    obtain ⟨g, o, e, _⟩ := h 0 x rfl
    cases e
def OwnI (w : World) (g : Nat) (t : TypeId) (ns : List Int) : Prop := ∃ c : Array Value, w.heap[g]? = some (.cells c t (0, 0)) ∧ ∀ (k : Nat) (x : Int), ns[k]? = some x → c[k]? = some (.int .i64 x)
theorem OwnI.lt {w : World} {g : Nat} {t : TypeId} {ns : List Int} (h : OwnI w g t ns) : g < w.heap.size := by
  obtain ⟨c, hc, _⟩ := h
  exact (Array.getElem?_eq_some_iff.1 hc).1
theorem OwnI.of_block {w w' : World} {g : Nat} {t : TypeId} {ns : List Int} (h : OwnI w g t ns) (hb : w'.heap[g]? = w.heap[g]?) : OwnI w' g t ns := by
  obtain ⟨c, hc, hl⟩ := h
  exact ⟨c, hb.trans hc, hl⟩
theorem OwnI.below {w w' : World} {g : Nat} {t : TypeId} {ns : List Int} (h : OwnI w g t ns) (hb : Below w.heap.size w w') : OwnI w' g t ns := h.of_block (hb.block g h.lt)
theorem OwnI.drewN {w : World} {g : Nat} {t : TypeId} {ns : List Int} (h : OwnI w g t ns) (n : Nat) : OwnI (w.drewN n) g t ns := h
theorem OwnI.at_ {w : World} {g : Nat} {t : TypeId} {ns : List Int} (h : OwnI w g t ns) {k : Nat} {x : Int} (hx : ns[k]? = some x) : w.cell? ⟨g, k, none⟩ = some (.int .i64 x) := by
  obtain ⟨c, hc, hl⟩ := h
  exact (cell_of_row w g _ c t (0, 0) hc).trans (hl k x hx)
theorem OwnI.rd {w : World} {g : Nat} {t : TypeId} {ns : List Int} (h : OwnI w g t ns) : RdI w (some ⟨g, 0, none⟩) ns := fun k x hx => ⟨g, 0, rfl, by rw [Nat.zero_add]; exact h.at_ hx⟩
theorem OwnI.frozen {w : World} {g : Nat} {t : TypeId} {ns : List Int} (h : OwnI w g t ns) (j : Nat) : w.frozen? ⟨g, j, none⟩ = false := by
  obtain ⟨c, hc, _⟩ := h
  exact frozen_of_row w g j c t hc
/-- n cells, the first k of which are known -/
def MadeI (w : World) (g : Nat) (t : TypeId) (n k : Nat) (ns : List Int) : Prop := ∃ c : Array Value, w.heap[g]? = some (.cells c t (0, 0)) ∧ c.size = n ∧ ∀ i, i < k → ∀ x, ns[i]? = some x → c[i]? = some (.int .i64 x)
theorem MadeI.lt {w : World} {g n k : Nat} {t : TypeId} {ns : List Int} (h : MadeI w g t n k ns) : g < w.heap.size := by
  obtain ⟨c, hc, _⟩ := h
  exact (Array.getElem?_eq_some_iff.1 hc).1
theorem MadeI.of_block {w w' : World} {g n k : Nat} {t : TypeId} {ns : List Int} (h : MadeI w g t n k ns) (hb : w'.heap[g]? = w.heap[g]?) : MadeI w' g t n k ns := by
  obtain ⟨c, hc, hs, hl⟩ := h
  exact ⟨c, hb.trans hc, hs, hl⟩
theorem MadeI.cell {w : World} {g n k : Nat} {t : TypeId} {ns : List Int} (h : MadeI w g t n k ns) {i : Nat} (hi : i < n) : ∃ v, w.cell? ⟨g, i, none⟩ = some v := by
  obtain ⟨c, hc, hs, _⟩ := h
  exact ⟨_, (cell_of_row w g i c t (0, 0) hc).trans (Array.getElem?_eq_getElem (by omega))⟩
theorem MadeI.frozen {w : World} {g n k : Nat} {t : TypeId} {ns : List Int} (h : MadeI w g t n k ns) (j : Nat) : w.frozen? ⟨g, j, none⟩ = false := by
  obtain ⟨c, hc, _⟩ := h
  exact frozen_of_row w g j c t hc
theorem MadeI.stored {w : World} {g n k : Nat} {t : TypeId} {ns : List Int} (h : MadeI w g t n k ns) (hk : k < n) {x : Int} (hx : ns[k]? = some x) : MadeI (w.setCell ⟨g, k, none⟩ (.int .i64 x)) g t n (k + 1) ns := by
  obtain ⟨c, hc, hs, hl⟩ := h
  refine ⟨_, heap_setCell_same w g k c t _ hc, by simp [hs], fun i hi y hy => ?_⟩
  rw [Array.getElem?_setIfInBounds]
  by_cases e : k = i
  · subst e
    rw [hx] at hy
    injection hy with hy
    subst hy
    rw [if_pos rfl, if_pos (by omega)]
  · rw [if_neg e]
    exact hl i (by omega) y hy
theorem MadeI.done {w : World} {g n : Nat} {t : TypeId} {ns : List Int} (h : MadeI w g t n n ns) (hn : ns.length ≤ n) : OwnI w g t ns := by
  obtain ⟨c, hc, _, hl⟩ := h
  exact ⟨c, hc, fun k x hx => hl k (by have := (List.getElem?_eq_some_iff.1 hx).1; omega) x hx⟩
theorem MadeI.of_own {w : World} {g : Nat} {t : TypeId} {ns : List Int} (h : OwnI w g t ns) (ms : List Int) : ∃ n, ns.length ≤ n ∧ MadeI w g t n 0 ms := by
  obtain ⟨c, hc, hl⟩ := h
  refine ⟨c.size, ?_, c, hc, rfl, fun i hi => absurd hi (by omega)⟩
  rcases Nat.eq_zero_or_pos ns.length with e | e
  · omega
  · have := (Array.getElem?_eq_some_iff.1 (hl (ns.length - 1) _ (List.getElem?_eq_getElem (by omega)))).1
    omega
theorem set_only {w a : World} {g : Nat} (h : w.grownBy a (some g)) (o : Nat) (u : Value) : w.grownBy (a.setCell ⟨g, o, none⟩ u) (some g) :=
  ⟨h.os, h.tape, h.output, by simpa [World.setCell] using h.size, fun b hb hne => (Below.heap_setCell a ⟨g, o, none⟩ u b (fun e => hne (by rw [e]))).trans (h.block b hb hne)⟩
theorem refl_only (w : World) (row : Option Nat) : w.grownBy w row := ⟨rfl, rfl, rfl, Nat.le_refl _, fun _ _ _ => rfl⟩
/-! ### the law's helpers -/
def WfI (ns : List Int) : Prop := ∀ x ∈ ns, (Lit.int .i64 x).wf = true
theorem info_int : (Try.prog.info? 2).map (fun i => (i.zero, i.size, i.bytes)) = some (some (.int .i64 0), 1, 8) := by kernel_rfl
theorem run_mk_int (n : Nat) (hn : n ≤ 1048576) (w : World) : (Instr.makeSlice 22 (.int .i64 (n : Int)) (.int .i64 (n : Int))).run Try.prog w = .ok (.slice (some ⟨w.heap.size, 0, none⟩) n n) (w.alloc (.cells (madeCells #[.int .i64 0] n) 2)) := by
  obtain ⟨i, hi, hz, hs, hb⟩ := info_parts info_int
  have hr := run_make (P := Try.prog) w 22 2 i _ Try.underlying22 hi hz .i64 .i64 n n (by omega) (Int.le_refl _) (by rw [hb]; omega) (by omega)
  simp only [Int.toNat_natCast, hs, Nat.mul_one] at hr
  exact hr
theorem MadeI.new (w : World) (t : TypeId) (n : Nat) (ns : List Int) : MadeI (w.alloc (.cells (madeCells #[.int .i64 0] n) t)) w.heap.size t n 0 ns := ⟨_, heap_alloc_new w _, size_madeCells _ _, fun i hi => absurd hi (by omega)⟩
theorem toInt64S_any (A : Option Addr) (c : Nat) (ns : List Int) (w : World) (hr : RdI w A ns) (hn : ns.length ≤ 1048576) :
    Calls Try.prog 16 #[.slice A ns.length c] w fun e w' => e = .returned (.slice (some ⟨w.heap.size, 0, none⟩) ns.length ns.length) ∧ OwnI w' w.heap.size 2 ns ∧ Below w.heap.size w w' := by
  have hmk := run_mk_int ns.length hn
  go_enter Try.func16, Try.ntmps16
  go_wp2_with fail
  clear hmk
  have hM0 := MadeI.new w 2 ns.length ns
  have hb0 := bl_alloc (Below.refl w.heap.size w) (.cells (madeCells #[.int .i64 0] ns.length) 2)
  go_loopw [4] (fun i wr => ∃ k : Nat, k ≤ ns.length ∧ i = .int .i64 k ∧ MadeI wr w.heap.size 2 ns.length k ns ∧ Below w.heap.size w wr) (fun i _ => ns.length - (intOf i).toNat)
  case atStart => exact ⟨0, Nat.zero_le _, rfl, hM0, hb0⟩
  case round =>
    obtain ⟨k, hk, rfl, hM, hb⟩ := hrel
    clear hM0 hb0
    by_cases hlt : k < ns.length
    · obtain ⟨g, o, rfl, hx⟩ := (hr.below hb).at_ k hlt
      obtain ⟨v0, e0⟩ := hM.cell hlt
      have f0 := hM.frozen k
      go_wp2_with fail
      clear hx e0 f0
      go_roundw
      case rel => exact ⟨k + 1, by omega, by go_num, hM.stored hlt (List.getElem?_eq_getElem hlt), bl_set hb _ _ (Nat.le_refl _) _⟩
      case measure => simp [intOf]; omega
    · obtain rfl : k = ns.length := by omega
      go_wp2_with fail
      go_ret
      exact ⟨rfl, hM.done (Nat.le_refl _), hb⟩
theorem eqInt64S_same (A B : Option Addr) (c d : Nat) (ns : List Int) (w : World) (hA : RdI w A ns) (hB : RdI w B ns) (hn : ns.length ≤ 1048576) :
    Calls Try.prog 20 #[.slice A ns.length c, .slice B ns.length d] w fun e w' => e = .returned (.bool true) ∧ Below w.heap.size w w' := by
  go_enter Try.func20, Try.ntmps20
  go_wp2_with fail
  go_loopw [5] (fun i wr => ∃ k : Nat, k ≤ ns.length ∧ i = .int .i64 k ∧ Below w.heap.size w wr) (fun i _ => ns.length - (intOf i).toNat)
  case atStart => exact ⟨0, Nat.zero_le _, rfl, Below.refl _ _⟩
  case round =>
    obtain ⟨k, hk, rfl, hb⟩ := hrel
    by_cases hlt : k < ns.length
    · obtain ⟨g, o, rfl, hx⟩ := (hA.below hb).at_ k hlt
      obtain ⟨g', o', rfl, hy⟩ := (hB.below hb).at_ k hlt
      go_wp2_with fail
      go_quiet (fail)
      go_wp2_with fail
      go_roundw
      case rel => exact ⟨k + 1, by omega, by go_num, bl_drewN hb _⟩
      case measure => simp [intOf]; omega
    · obtain rfl : k = ns.length := by omega
      go_wp2_with fail
      go_ret
      exact ⟨rfl, hb⟩
def markI (k : Int) (n : Nat) : List Int := (List.range n).map fun i : Nat => k + (i : Int)
theorem markI_len (k : Int) (n : Nat) : (markI k n).length = n := by simp [markI]
theorem markI_at (k : Int) (n i : Nat) (h : i < n) : (markI k n)[i]? = some (k + i) := by simp [markI, h]
/-- What a result is: a slice of that many numbers, in a block of its own from B on (or none, where there are none). -/
def OwnIO (w : World) (B : Nat) (A : Option Addr) (ns : List Int) : Prop := ns = [] ∨ ∃ g, A = some ⟨g, 0, none⟩ ∧ B ≤ g ∧ OwnI w g 2 ns
theorem OwnIO.rd {w : World} {B : Nat} {A : Option Addr} {ns : List Int} (h : OwnIO w B A ns) : RdI w A ns := by
  rcases h with rfl | ⟨g, rfl, _, h⟩
  · exact RdI.nil _ _
  · exact h.rd
theorem OwnIO.below {w w' : World} {B : Nat} {A : Option Addr} {ns : List Int} (h : OwnIO w B A ns) (hb : Below w.heap.size w w') : OwnIO w' B A ns := by
  rcases h with rfl | ⟨g, rfl, hB, h⟩
  · exact .inl rfl
  · exact .inr ⟨g, rfl, hB, h.below hb⟩
theorem OwnIO.mono {w : World} {B B' : Nat} {A : Option Addr} {ns : List Int} (h : OwnIO w B A ns) (hB : B' ≤ B) : OwnIO w B' A ns := by
  rcases h with h | ⟨g, hA, hg, h⟩
  · exact .inl h
  · exact .inr ⟨g, hA, Nat.le_trans hB hg, h⟩
theorem OwnIO.aside {w w' : World} {B p : Nat} {A : Option Addr} {ns : List Int} (h : OwnIO w B A ns) (hg : w.grownBy w' (some p)) (hp : p < B) : OwnIO w' B A ns := by
  rcases h with rfl | ⟨g, rfl, hB, h⟩
  · exact .inl rfl
  · exact .inr ⟨g, rfl, hB, h.of_block (hg.block g h.lt (fun e => by injection e with e; omega))⟩
def MarkRI (w : World) (g : Nat) (k : Int) (n N : Nat) (q i : Value) (wr : World) : Prop := ∃ (m : Nat) (a : Int), m ≤ n ∧ i = .int .i64 m ∧ q = .int .i64 a ∧ Hid (a = k + m) ∧ 0 ≤ a ∧ a ≤ 12000000 ∧ MadeI wr g 2 N m (markI k n) ∧ w.grownBy wr (some g)
theorem markI_own (g c : Nat) (ns : List Int) (k : Int) (w : World) (h : OwnI w g 2 ns) (hn : ns.length ≤ 1048576) (h0 : 0 ≤ k) (h1 : k ≤ 10000000) :
    Calls Try.prog 21 #[.slice (some ⟨g, 0, none⟩) ns.length c, .int .i64 k] w fun e w' => e = .returned (.int .i64 (k + ns.length)) ∧ OwnI w' g 2 (markI k ns.length) ∧ w.grownBy w' (some g) := by
  obtain ⟨N, hN, hM0⟩ := MadeI.of_own h (markI k ns.length)
  go_enter Try.func21, Try.ntmps21
  go_wp2_with fail
  go_loopw [1, 5] (MarkRI w g k ns.length N) (fun _ i _ => ns.length - (intOf i).toNat)
  case atStart => exact ⟨0, k, Nat.zero_le _, rfl, rfl, by show k = _; simp, h0, by omega, hM0, refl_only _ _⟩
  case round =>
    obtain ⟨m, a, hm, rfl, rfl, ha, a0, a1, hM, hg⟩ := hrel
    clear hM0
    by_cases hlt : m < ns.length
    · obtain ⟨v0, e0⟩ := hM.cell (show m < N by omega)
      have f0 := hM.frozen m
      go_wp2_with fail
      clear e0 f0
      go_roundw
      case rel =>
        have hat := markI_at k ns.length m hlt
        rw [← ha.out] at hat
        have HM : MarkRI w g k ns.length N (.int .i64 (a + 1)) (.int .i64 ((m + 1 : Nat) : Int)) (wr.setCell ⟨g, m, none⟩ (.int .i64 a)) :=
          ⟨m + 1, a + 1, by omega, rfl, rfl, by show _ = _; have := ha.out; push_cast; omega, by omega, by have := ha.out; omega, hM.stored (by omega) hat, set_only hg m _⟩
        exact HM
      case measure => simp [intOf]; omega
    · obtain rfl : m = ns.length := by omega
      go_wp2_with fail
      go_ret
      refine ⟨ret_int ha.out, ?_, hg⟩
      obtain ⟨c, hc, _, hl⟩ := hM
      exact ⟨c, hc, fun k x hx => hl k (by have := (List.getElem?_eq_some_iff.1 hx).1; rwa [markI_len] at this) x hx⟩
theorem markI_nil (A : Option Addr) (c : Nat) (k : Int) (w : World) :
    Calls Try.prog 21 #[.slice A 0 c, .int .i64 k] w fun e w' => e = .returned (.int .i64 k) ∧ w = w' := by
  go_enter Try.func21, Try.ntmps21
  go_wp2_with fail
  go_loop [1, 5] (fun q i => q = .int .i64 k ∧ i = .int .i64 0) (fun _ _ => 0)
  case atStart => exact ⟨rfl, rfl⟩
  case round =>
    obtain ⟨rfl, rfl⟩ := hrel
    go_wp2_with fail
    go_ret
    exact ⟨rfl, rfl⟩
def MarkedI (w : World) (k : Int) (B : Nat) (A : Option Addr) (ns : List Int) (e : Ending) (w' : World) : Prop := e = .returned (.int .i64 (k + ns.length)) ∧ OwnIO w' B A (markI k ns.length) ∧ Below B w w'
theorem markI_any (A : Option Addr) (c : Nat) (ns : List Int) (k : Int) (w : World) (B : Nat) (h : OwnIO w B A ns) (hB : B ≤ w.heap.size) (hn : ns.length ≤ 1048576) (h0 : 0 ≤ k) (h1 : k ≤ 10000000) :
    Calls Try.prog 21 #[.slice A ns.length c, .int .i64 k] w (MarkedI w k B A ns) := by
  by_cases hne : ns = []
  · subst hne
    exact (markI_nil A c k w).mono fun e w' ⟨he, hw⟩ => ⟨by rw [he]; simp, .inl rfl, hw ▸ Below.refl _ _⟩
  rcases h with rfl | ⟨g, rfl, hBg, h⟩
  · exact absurd rfl hne
  · exact (markI_own g c ns k w h hn h0 h1).mono fun e w' ⟨he, h2, hg⟩ => ⟨he, .inr ⟨g, rfl, hBg, h2⟩, ⟨hg.os, hg.tape, hg.output, hg.size, fun b hb => hg.block b (by omega) (fun e => by injection e with e; omega)⟩⟩
def HeldRI (k : Int) (n : Nat) (q i : Value) : Prop := ∃ (m : Nat) (a : Int), m ≤ n ∧ i = .int .i64 m ∧ q = .int .i64 a ∧ Hid (a = k + m) ∧ 0 ≤ a ∧ a ≤ 12000000
theorem heldI_any (A : Option Addr) (c : Nat) (n : Nat) (k : Int) (w : World) (h : RdI w A (markI k n)) (hn : n ≤ 1048576) (h0 : 0 ≤ k) (h1 : k ≤ 10000000) :
    Calls Try.prog 22 #[.slice A n c, .int .i64 k] w fun e w' => e = .returned (.int .i64 (k + n)) ∧ w = w' := by
  go_enter Try.func22, Try.ntmps22
  go_wp2_with fail
  go_loop [1, 5] (HeldRI k n) (fun _ i => n - (intOf i).toNat)
  case atStart => exact ⟨0, k, Nat.zero_le _, rfl, rfl, by show k = _; simp, h0, by omega⟩
  case round =>
    obtain ⟨m, a, hm, rfl, rfl, ha, a0, a1⟩ := hrel
    by_cases hlt : m < n
    · have hat := markI_at k n m hlt
      rw [← ha.out] at hat
      obtain ⟨g, o, rfl, hx⟩ := h m _ hat
      clear hat
      go_wp2_with fail
      go_round
      case rel => exact ⟨m + 1, a + 1, by omega, by go_num, rfl, by show _ = _; have := ha.out; push_cast; omega, by omega, by have := ha.out; omega⟩
      case measure => simp [intOf]; omega
    · obtain rfl : m = n := by omega
      go_wp2_with fail
      go_ret
      exact ⟨ret_int ha.out, rfl⟩
/-- What the walk is told of an argument that is a slice of int64. -/
def IntsIn (W : World) (A : Option Addr) (n cap : Nat) (z : List Int) : Prop := n = z.length ∧ n ≤ maxLen ∧ RdI W A z ∧ WfI z
set_option maxRecDepth 20000 in
theorem open_int64s {H : Type} {enc : TypeId × Value → H} {W : World} {r : Reach} {b0 : Nat} {spare : Nat → Bool} {held : Bool} {base : Nat} {v : Value} {d : DataW H} {p : List MemPlace}
    (hv : Value.okWide Try.prog W r b0 22 v) (h : DataW.Trod enc Try.prog W base spare held 22 v d p) :
    ∃ (A : Option Addr) (n cap : Nat) (z : List Int), v = .slice A n cap ∧ IntsIn W A n cap z := by
  obtain ⟨a0, len0, cap0, rfl⟩ := okWide_slice Try.underlying22 hv
  obtain ⟨m, h2⟩ := h
  rcases open_ints Try.underlying22 Try.underlying2 (by kernel_rfl) h2 with ⟨hc, _⟩ | ⟨a, len, cap, zs, hc, _, hl, hm, hz, _, hcell, hwf⟩
  · simp [Value.cells] at hc
    obtain ⟨rfl, rfl, rfl⟩ := hc
    exact ⟨none, 0, 0, [], rfl, rfl, Nat.zero_le _, RdI.nil _ _, fun x hx => by simp at hx⟩
  · simp [Value.cells] at hc
    obtain ⟨rfl, rfl, rfl⟩ := hc
    have hle : len0 ≤ zs.length := by rw [hz]; split <;> omega
    refine ⟨some a, _, _, zs.take len0, rfl, by rw [List.length_take]; omega, by omega, ?_, fun x hx => hwf x (List.mem_of_mem_take hx)⟩
    intro k x hx
    have hk : k < len0 := by have := (List.getElem?_eq_some_iff.1 hx).1; rw [List.length_take] at this; omega
    rw [List.getElem?_take, if_pos hk] at hx
    have hcl := hcell k (by omega)
    rw [List.getD_eq_getElem?_getD, hx] at hcl
    obtain ⟨b, off, spot⟩ := a
    have hspot : spot = none := by
      have h0 := hcell 0 (by omega)
      simpa [Addr.add] using World.cell?_spot h0
    subst hspot
    rw [Go.WideShapes.add_plain] at hcl
    exact ⟨b, off, rfl, hcl⟩
end Go.Proofs.Ytdbimgbekfiedaa
