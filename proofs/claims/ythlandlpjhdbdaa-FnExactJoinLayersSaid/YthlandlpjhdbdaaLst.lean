/- Lists of layers that the call owns: their flat cells, append onto them, and the contracts of slices.Clone, of the law's marking and of its check of marks. No condition. -/
import Derived.Test.YthlandlpjhdbdaaSum
import Derived.Test.YthlandlpjhdbdaaLyS
import Derived.Maps.AppendAt
import Derived.Deep.AppendLies
import Derived.Laws.OwnMore
import Derived.RegionTactic
import Derived.OwnWalk
namespace Go.Proofs.Ythlandlpjhdbdaa
open Go.ChangeShapes Go.WideShapes Go.ChangeAt Go.RowKit Go.Joins Go.Deep
set_option linter.unusedVariables false
/-! ### flat cells -/
def flat1 (x : Ly) : List Value := [.int .i64 x.form, .int .i64 x.ice, .int .i64 x.water, .int .i64 x.dens, .int .i64 x.deg, .int .i64 x.hard, .int .i64 x.age]
def flat (ls : List Ly) : List Value := ls.flatMap flat1
theorem flat_len (ls : List Ly) : (flat ls).length = ls.length * 7 := by
  induction ls with
  | nil => rfl
  | cons x l ih => unfold flat at *; rw [List.flatMap_cons, List.length_append, ih, List.length_cons]; simp only [flat1, List.length_cons, List.length_nil]; omega
theorem flat_app (a b : List Ly) : flat (a ++ b) = flat a ++ flat b := by unfold flat; rw [List.flatMap_append]
theorem flat1_get (x : Ly) (j : Nat) (hj : j < 7) : (flat1 x)[j]? = some (.int .i64 (x.get j)) := by
  match j, hj with
  | 0, _ => rfl
  | 1, _ => rfl
  | 2, _ => rfl
  | 3, _ => rfl
  | 4, _ => rfl
  | 5, _ => rfl
  | 6, _ => rfl
theorem flat_get (ls : List Ly) : ∀ (k : Nat) (x : Ly), ls[k]? = some x → ∀ j, j < 7 → (flat ls)[k * 7 + j]? = some (.int .i64 (x.get j)) := by
  induction ls with
  | nil => intro k x hx; simp at hx
  | cons y l ih =>
    intro k x hx j hj
    have e : flat (y :: l) = flat1 y ++ flat l := by unfold flat; rw [List.flatMap_cons]
    rw [e]
    match k with
    | 0 =>
      simp at hx
      subst hx
      rw [List.getElem?_append_left (by simp [flat1]; omega), Nat.zero_mul, Nat.zero_add]
      exact flat1_get y j hj
    | k + 1 =>
      rw [List.getElem?_append_right (by simp [flat1]; omega)]
      have := ih k x (by simpa using hx) j hj
      rw [← this]
      congr 1
      simp [flat1]
      omega
theorem flat_mem {ls : List Ly} {i : Nat} {u : Value} (h : (flat ls)[i]? = some u) : ∃ x, ls[i / 7]? = some x ∧ u = .int .i64 (x.get (i % 7)) := by
  have hi : i < ls.length * 7 := by rw [← flat_len]; exact (List.getElem?_eq_some_iff.1 h).1
  have hk : i / 7 < ls.length := by omega
  refine ⟨ls[i / 7], List.getElem?_eq_getElem hk, ?_⟩
  have := flat_get ls (i / 7) _ (List.getElem?_eq_getElem hk) (i % 7) (Nat.mod_lt _ (by omega))
  rw [show i / 7 * 7 + i % 7 = i from by omega, h] at this
  injection this
theorem flat_one (ls : List Ly) : ∀ u ∈ flat ls, u.oneCell' = true := by
  intro u hu
  obtain ⟨i, hi, e⟩ := List.getElem_of_mem hu
  obtain ⟨x, _, rfl⟩ := flat_mem (e ▸ List.getElem?_eq_getElem hi)
  rfl
theorem LyAt.get {w : World} {g o : Nat} {x : Ly} (h : LyAt w g o x) (j : Nat) (hj : j < 7) : w.cell? ⟨g, o + j, none⟩ = some (.int .i64 (x.get j)) := by
  match j, hj with
  | 0, _ => exact h.c0
  | 1, _ => exact h.c1
  | 2, _ => exact h.c2
  | 3, _ => exact h.c3
  | 4, _ => exact h.c4
  | 5, _ => exact h.c5
  | 6, _ => exact h.c6
theorem RdL.cells {w : World} {a : Addr} {ls : List Ly} (h : RdL w (some a) ls) : ∀ j u, (flat ls)[j]? = some u → w.cell? (a.add j) = some u := by
  intro j u hu
  obtain ⟨x, hx, rfl⟩ := flat_mem hu
  obtain ⟨g, o, e, hl⟩ := h _ _ hx
  injection e with e
  subst e
  have := hl.get (j % 7) (Nat.mod_lt _ (by omega))
  rw [show o + j / 7 * 7 + j % 7 = o + j from by omega] at this
  rw [Go.WideShapes.add_plain]
  exact this
theorem RdL.of_none {w : World} {ls : List Ly} (h : RdL w none ls) : ls = [] := by
  match ls with
  | [] => rfl
  | x :: l =>
    obtain ⟨g, o, e, _⟩ := h 0 x rfl
    cases e
/-! ### rows of the call's own -/
def OwnS (w : World) (B : Nat) (v : Value) (ls : List Ly) : Prop := w.ownsRow B 34 7 v ls.length (flat ls)
/-- What a result is: a slice of that many layers, in a block of its own from B on (or none, where there are none). -/
def OwnO (w : World) (B : Nat) (A : Option Addr) (ls : List Ly) : Prop := ls = [] ∨ ∃ g, A = some ⟨g, 0, none⟩ ∧ B ≤ g ∧ OwnL w g 34 ls
theorem OwnS.out {w : World} {B : Nat} {v : Value} {ls : List Ly} (h : OwnS w B v ls) : ∃ A c, v = .slice A ls.length c ∧ OwnO w B A ls := by
  rcases h.2 with ⟨rfl, hn⟩ | ⟨g, cap, cur, rfl, hB, hg, hnc, hcm, hcs, ht⟩
  · have e : ls = [] := List.eq_nil_of_length_eq_zero hn
    subst e
    exact ⟨none, 0, rfl, .inl rfl⟩
  · refine ⟨_, cap, rfl, .inr ⟨g, rfl, hB, cur, hg, fun k x hx j hj => ?_⟩⟩
    have := flat_get ls k x hx j hj
    rw [← ht, List.getElem?_take] at this
    split at this
    · rw [← Array.getElem?_toList]
      exact this
    · cases this
theorem OwnS.cap {w : World} {B n c : Nat} {A : Option Addr} {ls : List Ly} (h : OwnS w B (.slice A n c) ls) : ls.length ≤ c := by
  rcases h.2 with ⟨_, hn⟩ | ⟨g, cap, cur, hv, _, _, hnc, _⟩
  · omega
  · injection hv with _ _ e
    omega
theorem OwnO.rd {w : World} {B : Nat} {A : Option Addr} {ls : List Ly} (h : OwnO w B A ls) : RdL w A ls := by
  rcases h with rfl | ⟨g, rfl, _, h⟩
  · exact RdL.nil _ _
  · exact h.rd
theorem OwnO.below {w w' : World} {B : Nat} {A : Option Addr} {ls : List Ly} (h : OwnO w B A ls) (hb : Below w.heap.size w w') : OwnO w' B A ls := by
  rcases h with rfl | ⟨g, rfl, hB, h⟩
  · exact .inl rfl
  · exact .inr ⟨g, rfl, hB, h.below hb⟩
/-- kept by what writes block p alone, a block below its own -/
theorem OwnO.aside {w w' : World} {B p : Nat} {A : Option Addr} {ls : List Ly} (h : OwnO w B A ls) (hg : w.grownBy w' (some p)) (hp : p < B) : OwnO w' B A ls := by
  rcases h with rfl | ⟨g, rfl, hB, h⟩
  · exact .inl rfl
  · exact .inr ⟨g, rfl, hB, h.of_block (hg.block g h.lt (fun e => by injection e with e; omega))⟩
/-- kept by what writes block p alone, a block that came later -/
theorem OwnO.older {w w' w0 : World} {B p : Nat} {A : Option Addr} {ls : List Ly} (h : OwnO w0 B A ls) (hb : Below w0.heap.size w0 w) (hg : w.grownBy w' (some p)) (hp : w0.heap.size ≤ p) : OwnO w' B A ls := by
  rcases h with rfl | ⟨g, rfl, hB, h⟩
  · exact .inl rfl
  · have h2 := h.below hb
    exact .inr ⟨g, rfl, hB, h2.of_block (hg.block g h2.lt (fun e => by injection e with e; have := h.lt; omega))⟩
theorem OwnS.below {w w' : World} {B : Nat} {v : Value} {ls : List Ly} (h : OwnS w B v ls) (hb : Below w.heap.size w w') : OwnS w' B v ls :=
  World.ownsRow.kept (row := none) h ⟨hb.os, hb.tape, hb.output, hb.size, fun k hk _ => hb.block k hk⟩ (by cases hv : v.ownBlock <;> simp)
theorem OwnS.nil (w : World) (B : Nat) : OwnS w B (.slice none 0 0) [] := World.ownsRow_nil w B _ 7
/-! ### append -/
section
variable {P : Program} (w : World)
theorem run_append_of_nil (base : Nat) (t ty e : TypeId) (i : TypeInfo) (size : Nat) (ht : P.underlying t = some (.slice e)) (hi : P.info? e = some i)
    (v : Value) (n : Nat) (xs : List Value) (hown : w.ownsRow base e size v n xs) (c : Nat) : (Builtin.append_ #[t, t] ty #[v, .slice none 0 c]).run P w = .ok v w := by
  rcases hown.2 with ⟨rfl, rfl⟩ | ⟨g, cap, cur, rfl, _, _, hnc, _⟩
  · simp [Builtin.append_, run_underlying ht, sizeOf, typeInfo, hi, Builtin.lenOf, Builtin.firstCells]
  · simp [Builtin.append_, run_underlying ht, sizeOf, typeInfo, hi, Builtin.lenOf, Builtin.firstCells, hnc, storeCells]
end
theorem run_appL (w : World) (ty : TypeId) (B : Nat) (v : Value) (ls ms : List Ly) (A : Option Addr) (c : Nat) (ho : OwnS w B v ls) (hr : RdL w A ms) (hn : ls.length + ms.length ≤ 3000000) (hB : B ≤ w.heap.size) :
    ∃ v' w', (Builtin.append_ #[24, 24] ty #[v, .slice A ms.length c]).run Try.prog w = .ok v' w' ∧ OwnS w' B v' (ls ++ ms) ∧ w.grownBy w' v.ownBlock := by
  obtain ⟨i, hi, hz, hs, hb⟩ := info_parts info_ly
  match A, hr with
  | none, hr =>
    obtain rfl := hr.of_none
    exact ⟨v, w, run_append_of_nil w B _ ty 34 i 7 Try.underlying24 hi v ls.length (flat ls) ho c, by rw [List.append_nil]; exact ho, ⟨rfl, rfl, rfl, Nat.le_refl _, fun _ _ _ => rfl⟩⟩
  | some a, hr =>
    obtain ⟨v', w', h1, h2, h3, _, _⟩ := run_append_own_at (P := Try.prog) w B 24 ty 34 i _ 7 56 Try.underlying24 hi hz hs hb (by rfl) (by omega) v ls.length (flat ls) ho a ms.length c (flat ms) (flat_len ms) hr.cells (flat_one ms) (by simp only [maxLen]; omega) (by omega) hB
    refine ⟨v', w', h1, ?_, h3⟩
    unfold OwnS
    rw [List.length_append, flat_app]
    exact h2
theorem grown_below {w w' : World} {B : Nat} {v : Value} {ls : List Ly} (ho : OwnS w B v ls) (hg : w.grownBy w' v.ownBlock) (hB : B ≤ w.heap.size) : Below B w w' :=
  ⟨hg.os, hg.tape, hg.output, hg.size, fun k hk => hg.block k (by omega) (fun e => by have := World.ownsRow.lt ho k e.symm; omega)⟩
theorem wpList_appL (w : World) {ops : Array Oper} {rest : List Oper} {o : Oper} {a : Act} {Q : Exit → Act → World → Prop} (hgd : o.guard = none) (s x : Operand)
    (ho : o.op = .call { callee := .builtin .append, args := #[s, x], argTypes := #[24, 24] })
    (B : Nat) (v : Value) (ls ms : List Ly) (A : Option Addr) (c : Nat) (hs : a.eval s = v) (hx : a.eval x = .slice A ms.length c) (hown : OwnS w B v ls) (hr : RdL w A ms) (hn : ls.length + ms.length ≤ 3000000) (hB : B ≤ w.heap.size)
    (h : ∀ v' w', OwnS w' B v' (ls ++ ms) → Below B w w' → w.grownBy w' v.ownBlock → wpList Try.prog ops Q rest (a.put o.dst v') w') :
    wpList Try.prog ops Q (o :: rest) a w := by
  refine wpList_plain hgd fun K hK => ?_
  obtain ⟨v', w', h1, h2, h3⟩ := run_appL w o.type B v ls ms A c hown hr hn hB
  unfold Oper.wp execOp
  simp only [ho, resolve, invoke, builtin, Sem.run_bind, Sem.run_pure, Result.andThen_ok, List.map_toArray, List.map_cons, List.map_nil, hs, hx, h1]
  exact hK _ _ (h v' w' h2 (grown_below hown h3 hB) h3)
theorem step_appL {ops : Array Oper} {o : Oper} {a : Act} {w : World} {K : Act → World → Prop} {Q : Exit → Act → World → Prop} {E : Prop} (hgd : o.guard = none) (s x : Operand)
    (ho : o.op = .call { callee := .builtin .append, args := #[s, x], argTypes := #[24, 24] })
    (B : Nat) (v : Value) (ls ms : List Ly) (A : Option Addr) (c : Nat) (hs : a.eval s = v) (hx : a.eval x = .slice A ms.length c) (hown : OwnS w B v ls) (hr : RdL w A ms) (hn : ls.length + ms.length ≤ 3000000) (hB : B ≤ w.heap.size)
    (h : ∀ v' w', OwnS w' B v' (ls ++ ms) → Below B w w' → w.grownBy w' v.ownBlock → K (a.put o.dst v') w') :
    if Region.wanted o (yielded ops a.tmps) = true then Oper.wp Try.prog o a w K Q else E := by
  have hw : Region.wanted o (yielded ops a.tmps) = true := by simp [Region.wanted, hgd]
  rw [if_pos hw]
  obtain ⟨v', w', h1, h2, h3⟩ := run_appL w o.type B v ls ms A c hown hr hn hB
  unfold Oper.wp execOp
  simp only [ho, resolve, invoke, builtin, Sem.run_bind, Sem.run_pure, Result.andThen_ok, List.map_toArray, List.map_cons, List.map_nil, hs, hx, h1]
  exact h v' w' h2 (grown_below hown h3 hB) h3
theorem OwnS.mono {w : World} {B B' : Nat} {v : Value} {ls : List Ly} (h : OwnS w B v ls) (hB : B' ≤ B) : OwnS w B' v ls := by
  refine ⟨h.1, ?_⟩
  rcases h.2 with h | ⟨g, cap, cur, hv, hb, rest⟩
  · exact .inl h
  · exact .inr ⟨g, cap, cur, hv, Nat.le_trans hB hb, rest⟩
theorem OwnS.drew {w : World} {B : Nat} {v : Value} {ls : List Ly} (h : OwnS w B v ls) : OwnS w.drew B v ls := h
theorem RdL.one {w : World} {g : Nat} {x : Ly} (h : LyAt w g 0 x) : RdL w (some ⟨g, 0, none⟩) [x] := fun k y hy => by
  match k with
  | 0 =>
    simp at hy
    subst hy
    exact ⟨g, 0, rfl, h⟩
  | k + 1 => simp at hy
theorem LyAt.new' (w : World) (t : TypeId) (x : Ly) (g : Nat) (hg : g = w.heap.size) : LyAt (w.alloc (.cells #[.int .i64 x.form, .int .i64 x.ice, .int .i64 x.water, .int .i64 x.dens, .int .i64 x.deg, .int .i64 x.hard, .int .i64 x.age] t)) g 0 x := hg ▸ LyAt.new w t x
theorem LyAt.drew {w : World} {g o : Nat} {x : Ly} (h : LyAt w g o x) : LyAt w.drew g o x := h.of_block rfl
theorem LyAt.alloc {w : World} {g o : Nat} {x : Ly} (h : LyAt w g o x) (ob : Obj) : LyAt (w.alloc ob) g o x := h.of_block (Below.heap_alloc w ob g h.lt)
theorem LyAt.grown {w w' : World} {g o : Nat} {x : Ly} {row : Option Nat} (h : LyAt w g o x) (hg : w.grownBy w' row) (hne : some g ≠ row) : LyAt w' g o x := h.of_block (hg.block g h.lt hne)
theorem boxes2 (w : World) (t : TypeId) (x y : Ly) : LyAt ((w.alloc (.cells #[.int .i64 x.form, .int .i64 x.ice, .int .i64 x.water, .int .i64 x.dens, .int .i64 x.deg, .int .i64 x.hard, .int .i64 x.age] t)).alloc (.cells #[.int .i64 y.form, .int .i64 y.ice, .int .i64 y.water, .int .i64 y.dens, .int .i64 y.deg, .int .i64 y.hard, .int .i64 y.age] t)).drew w.heap.size 0 x ∧
    LyAt ((w.alloc (.cells #[.int .i64 x.form, .int .i64 x.ice, .int .i64 x.water, .int .i64 x.dens, .int .i64 x.deg, .int .i64 x.hard, .int .i64 x.age] t)).alloc (.cells #[.int .i64 y.form, .int .i64 y.ice, .int .i64 y.water, .int .i64 y.dens, .int .i64 y.deg, .int .i64 y.hard, .int .i64 y.age] t)).drew (w.heap.size + 1) 0 y := by
  refine ⟨(LyAt.new w t x).of_block (Below.heap_alloc _ _ _ (by simp)), ?_⟩
  have := LyAt.new (w.alloc (.cells #[.int .i64 x.form, .int .i64 x.ice, .int .i64 x.water, .int .i64 x.dens, .int .i64 x.deg, .int .i64 x.hard, .int .i64 x.age] t)) t y
  rw [show (w.alloc (.cells #[.int .i64 x.form, .int .i64 x.ice, .int .i64 x.water, .int .i64 x.dens, .int .i64 x.deg, .int .i64 x.hard, .int .i64 x.age] t)).heap.size = w.heap.size + 1 from by simp] at this
  exact this.of_block rfl
theorem S14_step {w a b : World} {p q : Nat} {x y : Ly} (hp : p < w.heap.size) (hq : q < w.heap.size) (h : a.cell? ⟨p, 0, none⟩ = some (.int .i64 x.form) ∧ a.cell? ⟨p, 1, none⟩ = some (.int .i64 x.ice) ∧ a.cell? ⟨p, 2, none⟩ = some (.int .i64 x.water) ∧ a.cell? ⟨p, 3, none⟩ = some (.int .i64 x.dens) ∧ a.cell? ⟨p, 4, none⟩ = some (.int .i64 x.deg) ∧ a.cell? ⟨p, 5, none⟩ = some (.int .i64 x.hard) ∧ a.cell? ⟨p, 6, none⟩ = some (.int .i64 x.age) ∧ a.cell? ⟨q, 0, none⟩ = some (.int .i64 y.form) ∧ a.cell? ⟨q, 1, none⟩ = some (.int .i64 y.ice) ∧ a.cell? ⟨q, 2, none⟩ = some (.int .i64 y.water) ∧ a.cell? ⟨q, 3, none⟩ = some (.int .i64 y.dens) ∧ a.cell? ⟨q, 4, none⟩ = some (.int .i64 y.deg) ∧ a.cell? ⟨q, 5, none⟩ = some (.int .i64 y.hard) ∧ a.cell? ⟨q, 6, none⟩ = some (.int .i64 y.age) ∧ Below w.heap.size w a) (hb : Below a.heap.size a b) :
    b.cell? ⟨p, 0, none⟩ = some (.int .i64 x.form) ∧ b.cell? ⟨p, 1, none⟩ = some (.int .i64 x.ice) ∧ b.cell? ⟨p, 2, none⟩ = some (.int .i64 x.water) ∧ b.cell? ⟨p, 3, none⟩ = some (.int .i64 x.dens) ∧ b.cell? ⟨p, 4, none⟩ = some (.int .i64 x.deg) ∧ b.cell? ⟨p, 5, none⟩ = some (.int .i64 x.hard) ∧ b.cell? ⟨p, 6, none⟩ = some (.int .i64 x.age) ∧ b.cell? ⟨q, 0, none⟩ = some (.int .i64 y.form) ∧ b.cell? ⟨q, 1, none⟩ = some (.int .i64 y.ice) ∧ b.cell? ⟨q, 2, none⟩ = some (.int .i64 y.water) ∧ b.cell? ⟨q, 3, none⟩ = some (.int .i64 y.dens) ∧ b.cell? ⟨q, 4, none⟩ = some (.int .i64 y.deg) ∧ b.cell? ⟨q, 5, none⟩ = some (.int .i64 y.hard) ∧ b.cell? ⟨q, 6, none⟩ = some (.int .i64 y.age) ∧ Below w.heap.size w b := by
  obtain ⟨c0, c1, c2, c3, c4, c5, c6, d0, d1, d2, d3, d4, d5, d6, hB⟩ := h
  have hp2 : p < a.heap.size := Nat.lt_of_lt_of_le hp hB.size
  have hq2 : q < a.heap.size := Nat.lt_of_lt_of_le hq hB.size
  exact ⟨(hb.cell (p := ⟨p, _, none⟩) hp2).trans c0, (hb.cell (p := ⟨p, _, none⟩) hp2).trans c1, (hb.cell (p := ⟨p, _, none⟩) hp2).trans c2, (hb.cell (p := ⟨p, _, none⟩) hp2).trans c3, (hb.cell (p := ⟨p, _, none⟩) hp2).trans c4, (hb.cell (p := ⟨p, _, none⟩) hp2).trans c5, (hb.cell (p := ⟨p, _, none⟩) hp2).trans c6,
    (hb.cell (p := ⟨q, _, none⟩) hq2).trans d0, (hb.cell (p := ⟨q, _, none⟩) hq2).trans d1, (hb.cell (p := ⟨q, _, none⟩) hq2).trans d2, (hb.cell (p := ⟨q, _, none⟩) hq2).trans d3, (hb.cell (p := ⟨q, _, none⟩) hq2).trans d4, (hb.cell (p := ⟨q, _, none⟩) hq2).trans d5, (hb.cell (p := ⟨q, _, none⟩) hq2).trans d6, bl_trans hB hb⟩
theorem S14_bl {w a : World} {p q : Nat} {x y : Ly} (h : a.cell? ⟨p, 0, none⟩ = some (.int .i64 x.form) ∧ a.cell? ⟨p, 1, none⟩ = some (.int .i64 x.ice) ∧ a.cell? ⟨p, 2, none⟩ = some (.int .i64 x.water) ∧ a.cell? ⟨p, 3, none⟩ = some (.int .i64 x.dens) ∧ a.cell? ⟨p, 4, none⟩ = some (.int .i64 x.deg) ∧ a.cell? ⟨p, 5, none⟩ = some (.int .i64 x.hard) ∧ a.cell? ⟨p, 6, none⟩ = some (.int .i64 x.age) ∧ a.cell? ⟨q, 0, none⟩ = some (.int .i64 y.form) ∧ a.cell? ⟨q, 1, none⟩ = some (.int .i64 y.ice) ∧ a.cell? ⟨q, 2, none⟩ = some (.int .i64 y.water) ∧ a.cell? ⟨q, 3, none⟩ = some (.int .i64 y.dens) ∧ a.cell? ⟨q, 4, none⟩ = some (.int .i64 y.deg) ∧ a.cell? ⟨q, 5, none⟩ = some (.int .i64 y.hard) ∧ a.cell? ⟨q, 6, none⟩ = some (.int .i64 y.age) ∧ Below w.heap.size w a) : Below w.heap.size w a := by
  obtain ⟨_, _, _, _, _, _, _, _, _, _, _, _, _, _, h⟩ := h
  exact h
theorem OwnS.made0' (w : World) (B n : Nat) (hn : n = w.heap.size) (hB : B ≤ w.heap.size) : OwnS (w.alloc (.cells #[] 34)) B (.slice (some ⟨n, 0, none⟩) 0 0) [] :=
  hn ▸ World.ownsRow_made w #[] 0 hB (Nat.zero_le _) (by simp)
/-- an empty row that was just made -/
theorem OwnS.made0 (w : World) (B : Nat) (hB : B ≤ w.heap.size) : OwnS (w.alloc (.cells #[] 34)) B (.slice (some ⟨w.heap.size, 0, none⟩) 0 0) [] :=
  World.ownsRow_made w #[] 0 hB (Nat.zero_le _) (by simp)
end Go.Proofs.Ythlandlpjhdbdaa
