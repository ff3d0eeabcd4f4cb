/- Lists of layers that are changed in place, from the last layer to the first: plain laws on lists, and the reference's own copy. No condition. -/
import Derived.Test.YtnlikinckmoomaaMark
import Derived.Test.YtnlikinckmoomaaSettle
namespace Go.Proofs.Ytnlikinckmoomaa
open Go.ChangeShapes Go.WideShapes Go.ChangeAt Go.RowKit Go.Joins Go.Deep
set_option linter.unusedVariables false
theorem VL.of_mem {ls : List Ly} (h : ls.length ≤ 16) (m : ∀ x ∈ ls, LyB x) : VL ls := ⟨h, fun k x hx => m x (List.mem_of_getElem? hx)⟩
theorem VL.of_at {ls : List Ly} (h : ls.length ≤ 16) (m : ∀ (k : Nat) (x : Ly), ls[k]? = some x → LyB x) : VL ls := ⟨h, m⟩
theorem cur_at (ls L : List Ly) (k : Nat) (h : k < ls.length) : (ls.take (k + 1) ++ L)[k]? = some ls[k] := by
  rw [List.getElem?_append_left (by rw [List.length_take]; omega), List.getElem?_take, if_pos (by omega), List.getElem?_eq_getElem h]
theorem cur_set (ls L : List Ly) (k : Nat) (h : k < ls.length) (y : Ly) : (ls.take (k + 1) ++ L).set k y = ls.take k ++ y :: L := by
  rw [List.take_succ_eq_append_getElem h, List.append_assoc, List.set_append_right _ _ (by rw [List.length_take]; omega)]
  congr 1
  rw [List.length_take, show k - min k ls.length = 0 from by omega]
  rfl
theorem drop_at (ls : List Ly) (k : Nat) (h : k < ls.length) : ls.drop k = ls[k] :: ls.drop (k + 1) := List.drop_eq_getElem_cons h
theorem OwnL.put {w : World} {g : Nat} {t : TypeId} {ls L : List Ly} {k : Nat} (h : OwnL w g t (ls.take (k + 1) ++ L)) (hk : k < ls.length) (x : Ly) (j : Nat) (hj : j < 7) (v : Int) :
    OwnL (w.setCell ⟨g, k * 7 + j, none⟩ (.int .i64 v)) g t (ls.take k ++ (ls[k].put j v) :: L) := by
  have := h.set (cur_at ls L k hk) j hj v
  rwa [cur_set ls L k hk] at this
/-- a further cell of the layer that was changed last -/
theorem OwnL.put2 {w : World} {g : Nat} {t : TypeId} {ls L : List Ly} {k : Nat} {y : Ly} (h : OwnL w g t (ls.take k ++ y :: L)) (hk : k < ls.length) (j : Nat) (hj : j < 7) (v : Int) :
    OwnL (w.setCell ⟨g, k * 7 + j, none⟩ (.int .i64 v)) g t (ls.take k ++ (y.put j v) :: L) := by
  have hlen : (ls.take k).length = k := by rw [List.length_take]; omega
  have hx : (ls.take k ++ y :: L)[k]? = some y := by
    rw [List.getElem?_append_right (by omega), hlen, Nat.sub_self]; rfl
  have := h.set hx j hj v
  rwa [List.set_append_right _ _ (by omega), hlen, Nat.sub_self] at this
theorem OwnL.one {w : World} {g : Nat} {t : TypeId} {ls L : List Ly} {k : Nat} (h : OwnL w g t (ls.take (k + 1) ++ L)) (hk : k < ls.length) : OwnL w g t (ls.take k ++ ls[k] :: L) := by
  have e : ls.take (k + 1) ++ L = ls.take k ++ ls[k] :: L := by rw [List.take_succ_eq_append_getElem hk, List.append_assoc]; rfl
  rwa [e] at h
theorem only_set {w a : World} {g : Nat} (h : w.grownBy a (some g)) (o : Nat) (u : Value) : w.grownBy (a.setCell ⟨g, o, none⟩ u) (some g) :=
  ⟨h.os, h.tape, h.output, by simpa [World.setCell] using h.size, fun b hb hne => (Below.heap_setCell a ⟨g, o, none⟩ u b (fun e => hne (by rw [e]))).trans (h.block b hb hne)⟩
theorem only_drewN {a w : World} {row : Option Nat} (h : a.grownBy w row) (n : Nat) : a.grownBy (w.drewN n) row := ⟨h.os, h.tape, h.output, h.size, h.block⟩
theorem only_drew {a w : World} {row : Option Nat} (h : a.grownBy w row) : a.grownBy w.drew row := ⟨h.os, h.tape, h.output, h.size, h.block⟩
theorem only_refl (w : World) (row : Option Nat) : w.grownBy w row := ⟨rfl, rfl, rfl, Nat.le_refl _, fun _ _ _ => rfl⟩
theorem only_below {a w w' : World} {row : Option Nat} (h : a.grownBy w row) (hb : Below w.heap.size w w') : a.grownBy w' row :=
  ⟨hb.os.trans h.os, hb.tape.trans h.tape, hb.output.trans h.output, Nat.le_trans h.size hb.size, fun k hk hne => (hb.block k (Nat.lt_of_lt_of_le hk h.size)).trans (h.block k hk hne)⟩
theorem only_trans {a b c : World} {row : Option Nat} (h : a.grownBy b row) (k : b.grownBy c row) : a.grownBy c row := World.grownBy.trans h k
/-- What a change in place leaves. -/
theorem OwnO.mono {w : World} {B B' : Nat} {A : Option Addr} {ls : List Ly} (h : OwnO w B A ls) (hB : B' ≤ B) : OwnO w B' A ls := by
  rcases h with h | ⟨g, hA, hg, h⟩
  · exact .inl h
  · exact .inr ⟨g, hA, Nat.le_trans hB hg, h⟩
theorem OwnO.changed {w w' : World} {B g : Nat} {ms : List Ly} (hB : B ≤ g) (hw : B ≤ w.heap.size) (h : OwnL w' g 45 ms) (hg : w.grownBy w' (some g)) : OwnO w' B (some ⟨g, 0, none⟩) ms ∧ Below B w w' :=
  ⟨.inr ⟨g, rfl, hB, h⟩, ⟨hg.os, hg.tape, hg.output, hg.size, fun b hb => hg.block b (by omega) (fun e => by injection e with e; omega)⟩⟩
theorem l05Own_any (A : Option Addr) (c : Nat) (ls : List Ly) (w : World) (hr : RdL w A ls) (hn : ls.length ≤ 1048576) :
    Calls Try.prog 61 #[.slice A ls.length c] w (GivesL w ls) := by
  have hr1 := hr.below (bl_alloc (Below.refl w.heap.size w) (.cells #[] 45))
  have ho := OwnS.made0 w w.heap.size (Nat.le_refl _)
  have HR := Lib.hid hr1
  have HO := Lib.hid ho
  clear hr1 ho
  go_enter Try.func61, Try.ntmps61
  go_wp2_with (at_builtin; refine wpList_appL _ rfl (.tmp 3) (.tmp 4) rfl w.heap.size _ [] ls _ c rfl rfl HO.out HR.out (by simp; omega) (by simp) ?_; intro v1 w1 hown1 hb1 _)
  go_ret
  exact ⟨_, rfl, by simpa using hown1, (bl_alloc (Below.refl w.heap.size w) (.cells #[] 45)).trans hb1⟩
end Go.Proofs.Ytnlikinckmoomaa
