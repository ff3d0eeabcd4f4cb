/- Boxes of fields: what a region of the law that loads two boxes keeps. No condition. -/
import Derived.Test.YtdbimgbekfiedaaFld
import Derived.Deep.RegionHeld3
namespace Go.Proofs.Ytdbimgbekfiedaa
open Go.ChangeShapes Go.WideShapes Go.ChangeAt Go.RowKit Go.Deep Go.Joins
set_option linter.unusedVariables false
structure FBx (w : World) (p : Nat) (r s : Int) (A : Option Addr) (n c : Nat) : Prop where
  c0 : w.cell? ⟨p, 0, none⟩ = some (.int .i64 r)
  c1 : w.cell? ⟨p, 1, none⟩ = some (.int .i64 s)
  c2 : w.cell? ⟨p, 2, none⟩ = some (.slice A n c)
theorem FBx.lt {w : World} {p : Nat} {r s : Int} {A : Option Addr} {n c : Nat} (h : FBx w p r s A n c) : p < w.heap.size := World.block_lt_of_cell? w _ h.c0
theorem FBx.below {w w' : World} {p : Nat} {r s : Int} {A : Option Addr} {n c : Nat} (h : FBx w p r s A n c) (hb : Below w.heap.size w w') : FBx w' p r s A n c :=
  ⟨(hb.cell (p := ⟨p, _, none⟩) h.lt).trans h.c0, (hb.cell (p := ⟨p, _, none⟩) h.lt).trans h.c1, (hb.cell (p := ⟨p, _, none⟩) h.lt).trans h.c2⟩
theorem FBx.new (w : World) (t : TypeId) (r s : Int) (A : Option Addr) (n c : Nat) : FBx (w.alloc (.cells #[.int .i64 r, .int .i64 s, .slice A n c] t)) w.heap.size r s A n c := by
  constructor <;> simp [go_sem]
def FB (w : World) (p : Nat) (r s : Int) (A : Option Addr) (n c : Nat) : Prop := w.cell? ⟨p, 0, none⟩ = some (.int .i64 r) ∧ w.cell? ⟨p, 1, none⟩ = some (.int .i64 s) ∧ w.cell? ⟨p, 2, none⟩ = some (.slice A n c)
theorem FBx.fb {w : World} {p : Nat} {r s : Int} {A : Option Addr} {n c : Nat} (h : FBx w p r s A n c) : FB w p r s A n c := ⟨h.c0, h.c1, h.c2⟩
theorem F6_step {w a b : World} {p q : Nat} {r s r' s' : Int} {A A' : Option Addr} {n c n' c' : Nat} (hp : p < w.heap.size) (hq : q < w.heap.size)
    (h : a.cell? ⟨p, 0, none⟩ = some (.int .i64 r) ∧ a.cell? ⟨p, 1, none⟩ = some (.int .i64 s) ∧ a.cell? ⟨p, 2, none⟩ = some (.slice A n c) ∧ a.cell? ⟨q, 0, none⟩ = some (.int .i64 r') ∧ a.cell? ⟨q, 1, none⟩ = some (.int .i64 s') ∧ a.cell? ⟨q, 2, none⟩ = some (.slice A' n' c') ∧ Below w.heap.size w a) (hb : Below a.heap.size a b) :
    b.cell? ⟨p, 0, none⟩ = some (.int .i64 r) ∧ b.cell? ⟨p, 1, none⟩ = some (.int .i64 s) ∧ b.cell? ⟨p, 2, none⟩ = some (.slice A n c) ∧ b.cell? ⟨q, 0, none⟩ = some (.int .i64 r') ∧ b.cell? ⟨q, 1, none⟩ = some (.int .i64 s') ∧ b.cell? ⟨q, 2, none⟩ = some (.slice A' n' c') ∧ Below w.heap.size w b := by
  obtain ⟨c0, c1, c2, d0, d1, d2, hB⟩ := h
  have hp2 : p < a.heap.size := Nat.lt_of_lt_of_le hp hB.size
  have hq2 : q < a.heap.size := Nat.lt_of_lt_of_le hq hB.size
  exact ⟨(hb.cell (p := ⟨p, _, none⟩) hp2).trans c0, (hb.cell (p := ⟨p, _, none⟩) hp2).trans c1, (hb.cell (p := ⟨p, _, none⟩) hp2).trans c2, (hb.cell (p := ⟨q, _, none⟩) hq2).trans d0, (hb.cell (p := ⟨q, _, none⟩) hq2).trans d1, (hb.cell (p := ⟨q, _, none⟩) hq2).trans d2, bl_trans hB hb⟩
theorem F6_bl {w a : World} {p q : Nat} {r s r' s' : Int} {A A' : Option Addr} {n c n' c' : Nat}
    (h : a.cell? ⟨p, 0, none⟩ = some (.int .i64 r) ∧ a.cell? ⟨p, 1, none⟩ = some (.int .i64 s) ∧ a.cell? ⟨p, 2, none⟩ = some (.slice A n c) ∧ a.cell? ⟨q, 0, none⟩ = some (.int .i64 r') ∧ a.cell? ⟨q, 1, none⟩ = some (.int .i64 s') ∧ a.cell? ⟨q, 2, none⟩ = some (.slice A' n' c') ∧ Below w.heap.size w a) : Below w.heap.size w a := h.2.2.2.2.2.2
end Go.Proofs.Ytdbimgbekfiedaa
