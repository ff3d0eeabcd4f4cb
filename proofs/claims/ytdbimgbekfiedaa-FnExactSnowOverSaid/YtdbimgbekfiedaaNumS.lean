/- Rows of int64 of the call's own: append of one number. No condition. -/
import Derived.Test.YtdbimgbekfiedaaIntS
import Derived.OwnWalk
import Derived.Laws.MakeOwn
import Derived.Laws.OwnMore
import Derived.Laws.AppendOwn
import Derived.Lib.SmallJoins
namespace Go.Proofs.Ytdbimgbekfiedaa
open Go.ChangeShapes Go.WideShapes Go.ChangeAt Go.RowKit
set_option linter.unusedVariables false
def icells (l : List Int) : List Value := l.map (Value.int .i64)
theorem icells_len (l : List Int) : (icells l).length = l.length := by simp [icells]
theorem icells_app (l : List Int) (x : Int) : icells l ++ [.int .i64 x] = icells (l ++ [x]) := by simp [icells]
theorem icells_at (l : List Int) (k : Nat) (x : Int) (h : l[k]? = some x) : (icells l)[k]? = some (.int .i64 x) := by simp [icells, h]
/-- Numbers in a row of the call's own. -/
def OwnN (w : World) (base : Nat) (v : Value) (l : List Int) : Prop := w.ownsRow base 2 1 v l.length (icells l)
theorem OwnN.form {w : World} {base : Nat} {v : Value} {l : List Int} (h : OwnN w base v l) : ∃ A c, v = .slice A l.length c ∧ l.length ≤ c := by
  rcases h.2 with ⟨rfl, hn⟩ | ⟨g, cap, cur, rfl, _, _, hc, _⟩
  · rw [hn]; exact ⟨_, _, rfl, Nat.le_refl _⟩
  · exact ⟨_, _, rfl, hc⟩
theorem OwnN.alloc {w : World} {base : Nat} {v : Value} {l : List Int} (h : OwnN w base v l) (o : Obj) : OwnN (w.alloc o) base v l := World.ownsRow.alloc h o
theorem OwnN.below {w w' : World} {B : Nat} {v : Value} {l : List Int} (h : OwnN w B v l) (hb : Below w.heap.size w w') : OwnN w' B v l :=
  World.ownsRow.kept (row := none) h ⟨hb.os, hb.tape, hb.output, hb.size, fun k hk _ => hb.block k hk⟩ (by cases hv : v.ownBlock <;> simp)
theorem OwnN.nil (w : World) (B : Nat) : OwnN w B (.slice none 0 0) [] := World.ownsRow_nil w B _ 1
theorem OwnN.empty (w : World) (base : Nat) (hb : base ≤ w.heap.size) : OwnN (w.alloc (.cells #[] 2)) base (.slice (some ⟨w.heap.size, 0, none⟩) 0 0) [] :=
  World.ownsRow_lit w #[] 0 hb (by unfold maxLen; omega) rfl
theorem OwnN.made (w : World) (base n : Nat) (hb : base ≤ w.heap.size) (hn : n ≤ 1000000) : OwnN (w.alloc (.cells (madeCells #[.int .i64 0] n) 2)) base (.slice (some ⟨w.heap.size, 0, none⟩) 0 n) [] :=
  World.ownsRow_made w _ n hb (by unfold maxLen; omega) (by rw [size_madeCells]; omega)
theorem OwnN.ge {w : World} {base : Nat} {v : Value} {l : List Int} (h : OwnN w base v l) : ∀ k, v.ownBlock = some k → base ≤ k := fun k hk => (World.ownsRow.lt h k hk).1
/-- A row of the call's own that is not empty lies at one block, from its first cell on. -/
theorem OwnN.at_ {w : World} {base n : Nat} {A : Option Addr} {c : Nat} {l : List Int} (h : OwnN w base (.slice A n c) l) (h0 : 0 < l.length) : ∃ g, A = some ⟨g, 0, none⟩ ∧ g < w.heap.size ∧ base ≤ g ∧ ∀ (k : Nat) (x : Int), l[k]? = some x → w.cell? ⟨g, 0 + k, none⟩ = some (.int .i64 x) := by
  have hl := World.ownsRow.lt h
  rcases h.2 with ⟨hv, hn⟩ | ⟨g, cap, cur, hv, _⟩
  · omega
  · simp only [Value.slice.injEq] at hv
    obtain ⟨rfl, rfl, rfl⟩ := hv
    have := hl g rfl
    exact ⟨g, rfl, this.2, this.1, fun k x hx => by rw [Nat.zero_add]; exact (World.ownsRow.cellAt h k (by have := (List.getElem?_eq_some_iff.1 hx).1; omega)).trans (icells_at l k x hx)⟩
theorem OwnN.rd {w : World} {base n : Nat} {A : Option Addr} {c : Nat} {l : List Int} (h : OwnN w base (.slice A n c) l) : RdI w A l := fun k x hx => by
  obtain ⟨g, hA, _, _, hc⟩ := h.at_ (by have := (List.getElem?_eq_some_iff.1 hx).1; omega)
  exact ⟨g, 0, hA, hc k x hx⟩
theorem info_intN : (Try.prog.info? 2).map (fun i => (i.zero, i.size, i.bytes)) = some (some (.int .i64 0), 1, 8) := by kernel_rfl
theorem wpList_app_int (w : World) {ops : Array Oper} {rest : List Oper} {o : Oper} {a : Act} {Q : Exit → Act → World → Prop} (hgd : o.guard = none) (s x : Operand)
    (ho : o.op = .call { callee := .builtin .append, args := #[s, x], argTypes := #[22, 22] })
    (base : Nat) (v : Value) (l : List Int) (hs : a.eval s = v) (hown : OwnN w base v l) (g : Nat) (c : Int) (hx : a.eval x = .slice (some ⟨g, 0, none⟩) 1 1) (hc : w.cell? ⟨g, 0, none⟩ = some (.int .i64 c))
    (hlen : l.length ≤ 1000000000) (hbase : base ≤ w.heap.size)
    (h : ∀ v' w', OwnN w' base v' (l ++ [c]) → w.grownBy w' v.ownBlock → wpList Try.prog ops Q rest (a.put o.dst v') w') : wpList Try.prog ops Q (o :: rest) a w := by
  obtain ⟨i0, hi0, hz0, hz1, hz2⟩ := info_parts info_intN
  refine wpList_append_own w hgd s x 22 ho base 2 i0 (.int .i64 0) 1 8 Try.underlying22 hi0 hz0 hz1 hz2 rfl (by omega) v l.length (icells l) hs hown ⟨g, 0, none⟩ 1 1 [.int .i64 c] hx rfl ?_ ?_ (by unfold maxLen; omega) (by omega) hbase ?_
  · intro j u hu
    cases j with
    | zero => simp at hu; subst hu; exact hc
    | succ j => simp at hu
  · intro u hu
    simp at hu
    subst hu
    rfl
  · intro v' w' h2 h3 _
    refine h v' w' ?_ h3
    unfold OwnN
    rw [← icells_app]
    simpa using h2
theorem run_mk_intN (n : Nat) (hn : n ≤ 1000000) (w : World) : (Instr.makeSlice 22 (.int .i64 0) (.int .i64 (n : Int))).run Try.prog w = .ok (.slice (some ⟨w.heap.size, 0, none⟩) 0 n) (w.alloc (.cells (madeCells #[.int .i64 0] n) 2)) := by
  obtain ⟨i, hi, hz, hs, hb⟩ := info_parts info_intN
  have hr := run_make (P := Try.prog) w 22 2 i _ Try.underlying22 hi hz .i64 .i64 0 n (by omega) (by omega) (by rw [hb]; omega) (by omega)
  simp only [Int.toNat_natCast, hs, Nat.mul_one] at hr
  exact hr
theorem new1i (w : World) (v : Value) (t : TypeId) : (w.alloc (.cells #[v] t)).cell? ⟨w.heap.size, 0, none⟩ = some v := by simp [go_sem]
theorem OwnN.io {w : World} {base : Nat} {A : Option Addr} {n c : Nat} {l : List Int} (h : OwnN w base (.slice A n c) l) : OwnIO w base A l := by
  by_cases h0 : 0 < l.length
  · obtain ⟨g, rfl, hg, hB, hc⟩ := h.at_ h0
    rcases h.2 with ⟨hv, hn⟩ | ⟨g', cap, cur, hv, hb, hheap, _⟩
    · omega
    · simp only [Value.slice.injEq, Option.some.injEq, Addr.mk.injEq] at hv
      obtain ⟨⟨rfl, _⟩, _, _⟩ := hv
      refine .inr ⟨g, rfl, hB, cur, hheap, fun k x hx => ?_⟩
      have := hc k x hx
      rw [Nat.zero_add, cell_of_row w g _ cur _ (0, 0) hheap] at this
      exact this
  · exact .inl (List.length_eq_zero_iff.1 (by omega))
/-- A list of numbers of its own is returned, and whether there is one. -/
def GivesNB (w : World) (l : List Int) (b : Bool) (e : Ending) (w' : World) : Prop := ∃ A c, e = .returned (.tuple #[.slice A l.length c, .bool b]) ∧ l.length ≤ c ∧ OwnIO w' w.heap.size A l ∧ Below w.heap.size w w'
theorem GivesNB.of {w w' : World} {v : Value} {l : List Int} {b : Bool} (h : OwnN w' w.heap.size v l) (hb : Below w.heap.size w w') : GivesNB w l b (.returned (.tuple #[v, .bool b])) w' := by
  obtain ⟨A, c, rfl, hc⟩ := h.form
  exact ⟨A, c, rfl, hc, h.io, hb⟩
theorem GivesNB.nil {w w' : World} {b : Bool} (hb : Below w.heap.size w w') : GivesNB w [] b (.returned (.tuple #[.slice none 0 0, .bool b])) w' := ⟨none, 0, rfl, Nat.le_refl _, .inl rfl, hb⟩
theorem GivesNB.emp {w w' : World} {b : Bool} {A : Option Addr} {c : Nat} (hb : Below w.heap.size w w') : GivesNB w [] b (.returned (.tuple #[.slice A 0 c, .bool b])) w' := ⟨A, c, rfl, Nat.zero_le _, .inl rfl, hb⟩
end Go.Proofs.Ytdbimgbekfiedaa
