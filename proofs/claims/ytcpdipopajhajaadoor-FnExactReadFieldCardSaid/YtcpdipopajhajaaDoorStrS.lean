/- Slices of strings in memory: how one reads as a list, rows of the call's own, append of one string. No condition. -/
import Derived.Test.YtcpdipopajhajaaDoorBase
import Derived.OwnWalk
import Derived.Laws.MakeOwn
import Derived.Laws.OwnMore
import Derived.Laws.AppendOwn
import Derived.Lib.SmallJoins
namespace Go.Proofs.YtcpdipopajhajaaDoor
open Go.ChangeShapes Go.WideShapes Go.ChangeAt Go.RowKit
set_option linter.unusedVariables false
def scells (l : List ByteArray) : List Value := l.map Value.string
theorem scells_len (l : List ByteArray) : (scells l).length = l.length := by simp [scells]
theorem scells_app (l : List ByteArray) (x : ByteArray) : scells l ++ [.string x] = scells (l ++ [x]) := by simp [scells]
theorem scells_at (l : List ByteArray) (k : Nat) (x : ByteArray) (h : l[k]? = some x) : (scells l)[k]? = some (.string x) := by simp [scells, h]
/-- The slice at A reads as these strings. -/
def RdT (w : World) (A : Option Addr) (l : List ByteArray) : Prop := ∀ (k : Nat) (x : ByteArray), l[k]? = some x → ∃ g o, A = some ⟨g, o, none⟩ ∧ w.cell? ⟨g, o + k, none⟩ = some (.string x)
theorem RdT.keep {w w' : World} {A : Option Addr} {l : List ByteArray} (h : RdT w A l) (hk : ∀ g, g < w.heap.size → w'.heap[g]? = w.heap[g]?) : RdT w' A l := fun k x hx => by
  obtain ⟨g, o, rfl, hl⟩ := h k x hx
  exact ⟨g, o, rfl, (World.cell?_of_block (a := ⟨g, _, none⟩) (hk g (World.block_lt_of_cell? w _ hl))).trans hl⟩
theorem RdT.below {w w' : World} {A : Option Addr} {l : List ByteArray} (h : RdT w A l) (hb : Below w.heap.size w w') : RdT w' A l := h.keep hb.block
theorem RdT.at_ {w : World} {A : Option Addr} {l : List ByteArray} (h : RdT w A l) (k : Nat) (hk : k < l.length) : ∃ g o, A = some ⟨g, o, none⟩ ∧ w.cell? ⟨g, o + k, none⟩ = some (.string l[k]) := h k _ (List.getElem?_eq_getElem hk)
/-- Strings in a row of the call's own. -/
def OwnT (w : World) (base : Nat) (v : Value) (l : List ByteArray) : Prop := w.ownsRow base 9 1 v l.length (scells l)
theorem OwnT.form {w : World} {base : Nat} {v : Value} {l : List ByteArray} (h : OwnT w base v l) : ∃ A c, v = .slice A l.length c ∧ l.length ≤ c := by
  rcases h.2 with ⟨rfl, hn⟩ | ⟨g, cap, cur, rfl, _, _, hc, _⟩
  · rw [hn]; exact ⟨_, _, rfl, Nat.le_refl _⟩
  · exact ⟨_, _, rfl, hc⟩
theorem OwnT.alloc {w : World} {base : Nat} {v : Value} {l : List ByteArray} (h : OwnT w base v l) (o : Obj) : OwnT (w.alloc o) base v l := World.ownsRow.alloc h o
theorem OwnT.below {w w' : World} {B : Nat} {v : Value} {l : List ByteArray} (h : OwnT w B v l) (hb : Below w.heap.size w w') : OwnT w' B v l :=
  World.ownsRow.kept (row := none) h ⟨hb.os, hb.tape, hb.output, hb.size, fun k hk _ => hb.block k hk⟩ (by cases hv : v.ownBlock <;> simp)
theorem OwnT.nil (w : World) (B : Nat) : OwnT w B (.slice none 0 0) [] := World.ownsRow_nil w B _ 1
theorem OwnT.empty (w : World) (base : Nat) (hb : base ≤ w.heap.size) : OwnT (w.alloc (.cells #[] 9)) base (.slice (some ⟨w.heap.size, 0, none⟩) 0 0) [] :=
  World.ownsRow_lit w #[] 0 hb (by unfold maxLen; omega) rfl
theorem OwnT.made (w : World) (base n : Nat) (hb : base ≤ w.heap.size) (hn : n ≤ 1000000) : OwnT (w.alloc (.cells (madeCells #[.string ⟨#[]⟩] n) 9)) base (.slice (some ⟨w.heap.size, 0, none⟩) 0 n) [] :=
  World.ownsRow_made w _ n hb (by unfold maxLen; omega) (by rw [size_madeCells]; omega)
theorem OwnT.ge {w : World} {base : Nat} {v : Value} {l : List ByteArray} (h : OwnT w base v l) : ∀ k, v.ownBlock = some k → base ≤ k := fun k hk => (World.ownsRow.lt h k hk).1
/-- A row of the call's own that is not empty lies at one block, from its first cell on. -/
theorem OwnT.at_ {w : World} {base n : Nat} {A : Option Addr} {c : Nat} {l : List ByteArray} (h : OwnT w base (.slice A n c) l) (h0 : 0 < l.length) : ∃ g, A = some ⟨g, 0, none⟩ ∧ g < w.heap.size ∧ base ≤ g ∧ ∀ (k : Nat) (x : ByteArray), l[k]? = some x → w.cell? ⟨g, 0 + k, none⟩ = some (.string x) := by
  have hl := World.ownsRow.lt h
  rcases h.2 with ⟨hv, hn⟩ | ⟨g, cap, cur, hv, _⟩
  · omega
  · simp only [Value.slice.injEq] at hv
    obtain ⟨rfl, rfl, rfl⟩ := hv
    have := hl g rfl
    exact ⟨g, rfl, this.2, this.1, fun k x hx => by rw [Nat.zero_add]; exact (World.ownsRow.cellAt h k (by have := (List.getElem?_eq_some_iff.1 hx).1; omega)).trans (scells_at l k x hx)⟩
theorem OwnT.rd {w : World} {base n : Nat} {A : Option Addr} {c : Nat} {l : List ByteArray} (h : OwnT w base (.slice A n c) l) : RdT w A l := fun k x hx => by
  obtain ⟨g, hA, _, _, hc⟩ := h.at_ (by have := (List.getElem?_eq_some_iff.1 hx).1; omega)
  exact ⟨g, 0, hA, hc k x hx⟩
theorem info_str : (Tryd.prog.info? 9).map (fun i => (i.zero, i.size, i.bytes)) = some (some (.string ⟨#[]⟩), 1, 16) := by kernel_rfl
theorem wpList_app_str (w : World) {ops : Array Oper} {rest : List Oper} {o : Oper} {a : Act} {Q : Exit → Act → World → Prop} (hgd : o.guard = none) (s x : Operand)
    (ho : o.op = .call { callee := .builtin .append, args := #[s, x], argTypes := #[49, 49] })
    (base : Nat) (v : Value) (l : List ByteArray) (hs : a.eval s = v) (hown : OwnT w base v l) (g : Nat) (c : ByteArray) (hx : a.eval x = .slice (some ⟨g, 0, none⟩) 1 1) (hc : w.cell? ⟨g, 0, none⟩ = some (.string c))
    (hlen : l.length ≤ 1000000000) (hbase : base ≤ w.heap.size)
    (h : ∀ v' w', OwnT w' base v' (l ++ [c]) → w.grownBy w' v.ownBlock → wpList Tryd.prog ops Q rest (a.put o.dst v') w') : wpList Tryd.prog ops Q (o :: rest) a w := by
  obtain ⟨i0, hi0, hz0, hz1, hz2⟩ := info_parts info_str
  refine wpList_append_own w hgd s x 49 ho base 9 i0 (.string ⟨#[]⟩) 1 16 Tryd.underlying49 hi0 hz0 hz1 hz2 rfl (by omega) v l.length (scells l) hs hown ⟨g, 0, none⟩ 1 1 [.string c] hx rfl ?_ ?_ (by unfold maxLen; omega) (by omega) hbase ?_
  · intro j u hu
    cases j with
    | zero => simp at hu; subst hu; exact hc
    | succ j => simp at hu
  · intro u hu
    simp at hu
    subst hu
    rfl
  · intro v' w' h2 h3 _
    refine h v' w' ?_ h3
    unfold OwnT
    rw [← scells_app]
    simpa using h2
theorem run_mk_str (n : Nat) (hn : n ≤ 1000000) (w : World) : (Instr.makeSlice 49 (.int .i64 0) (.int .i64 (n : Int))).run Tryd.prog w = .ok (.slice (some ⟨w.heap.size, 0, none⟩) 0 n) (w.alloc (.cells (madeCells #[.string ⟨#[]⟩] n) 9)) := by
  obtain ⟨i, hi, hz, hs, hb⟩ := info_parts info_str
  have hr := run_make (P := Tryd.prog) w 49 9 i _ Tryd.underlying49 hi hz .i64 .i64 0 n (by omega) (by omega) (by rw [hb]; omega) (by omega)
  simp only [Int.toNat_natCast, hs, Nat.mul_one] at hr
  exact hr
theorem new1s (w : World) (v : Value) (t : TypeId) : (w.alloc (.cells #[v] t)).cell? ⟨w.heap.size, 0, none⟩ = some v := by simp [go_sem]
end Go.Proofs.YtcpdipopajhajaaDoor
