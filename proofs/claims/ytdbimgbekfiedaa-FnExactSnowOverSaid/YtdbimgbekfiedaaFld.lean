/- Fields of snow: the opening of an argument, and the contracts of the law's helpers. No condition. -/
import Derived.Test.YtdbimgbekfiedaaIntS
import Derived.Lib.SmallJoins
namespace Go.Proofs.Ytdbimgbekfiedaa
open Go.ChangeShapes Go.WideShapes Go.ChangeAt Go.RowKit Go.Deep Go.Joins
set_option linter.unusedVariables false
/-- What the walk is told of an argument that is a field. -/
def FieldIn (W : World) (r c : Int) (A : Option Addr) (n cap : Nat) (z : List Int) : Prop := n = z.length ∧ n ≤ maxLen ∧ RdI W A z ∧ (Lit.int .i64 r).wf = true ∧ (Lit.int .i64 c).wf = true ∧ WfI z
set_option maxRecDepth 20000 in
theorem open_field {H : Type} {enc : TypeId × Value → H} {W : World} {r : Reach} {b0 : Nat} {spare : Nat → Bool} {held : Bool} {base : Nat} {v : Value} {d : DataW H} {p : List MemPlace}
    (hv : Value.okWide Try.prog W r b0 24 v) (h : DataW.Trod enc Try.prog W base spare held 24 v d p) :
    ∃ (x y : Int) (A : Option Addr) (n cap : Nat) (z : List Int), v = .agg #[.int .i64 x, .int .i64 y, .slice A n cap] ∧ FieldIn W x y A n cap z := by
  obtain ⟨v0, v1, v2, y0, y1, y2, n, rfl, _, _, h0, h1, h2⟩ := open_agg3 Try.underlying24 (by kernel_rfl) (by kernel_rfl) hv h
  obtain ⟨n0, e0, _, w0⟩ := DataW.trod_int Try.underlying2 h0
  obtain ⟨n1, e1, _, w1⟩ := DataW.trod_int Try.underlying2 h1
  simp at e0 e1
  subst e0 e1
  rcases open_ints Try.underlying22 Try.underlying2 (by kernel_rfl) h2 with ⟨hc, _⟩ | ⟨a, len, cap, zs, hc, _, hl, hm, hz, _, hcell, hwf⟩
  · simp at hc
    subst hc
    exact ⟨n0, n1, none, 0, 0, [], rfl, rfl, Nat.zero_le _, RdI.nil _ _, w0, w1, fun x hx => by simp at hx⟩
  · simp at hc
    subst hc
    have hle : len ≤ zs.length := by rw [hz]; split <;> omega
    refine ⟨n0, n1, some a, len, cap, zs.take len, rfl, by rw [List.length_take]; omega, by omega, ?_, w0, w1, fun x hx => hwf x (List.mem_of_mem_take hx)⟩
    intro k x hx
    have hk : k < len := by have := (List.getElem?_eq_some_iff.1 hx).1; rw [List.length_take] at this; omega
    rw [List.getElem?_take, if_pos hk] at hx
    have hcl := hcell k (by omega)
    rw [List.getD_eq_getElem?_getD, hx] at hcl
    obtain ⟨b, off, spot⟩ := a
    have hspot : spot = none := by
      have h0 := hcell 0 (by omega)
      simpa [Addr.add] using World.cell?_spot h0
    subst hspot
    rw [Go.WideShapes.add_plain] at hcl
    exact ⟨b, off, rfl, hcl⟩
theorem szInt64S_no (A : Option Addr) (n c : Nat) (left : Int) (w : World) (h : left < n) (h0 : 0 ≤ left) (h1 : left ≤ 1048576) (hn : n ≤ maxLen) : Calls Try.prog 11 #[.slice A n c, .int .i64 left] w fun e w' => e = .returned (.int .i64 (-1)) ∧ w = w' := by
  unfold maxLen at hn
  go_enter Try.func11, Try.ntmps11
  go_wp2
  go_ret
  exact ⟨rfl, rfl⟩
theorem szInt64S_yes (A : Option Addr) (n c : Nat) (left : Int) (w : World) (h : (n : Int) ≤ left) (h1 : left ≤ 1048576) : Calls Try.prog 11 #[.slice A n c, .int .i64 left] w fun e w' => e = .returned (.int .i64 (left - n)) ∧ w = w' := by
  go_enter Try.func11, Try.ntmps11
  go_wp2
  go_ret
  exact ⟨rfl, rfl⟩
theorem szField_no (r s : Int) (A : Option Addr) (n c : Nat) (left : Int) (w : World) (h : left < n) (h0 : 0 ≤ left) (h1 : left ≤ 1048576) (hn : n ≤ maxLen) : Calls Try.prog 4 #[.agg #[.int .i64 r, .int .i64 s, .slice A n c], .int .i64 left] w fun e w' => e = .returned (.int .i64 (-1)) ∧ Below w.heap.size w w' := by
  go_enter Try.func4, Try.ntmps4
  go_wp2_with (go_at_call 11; refine (szInt64S_no _ _ _ _ _ h h0 h1 hn).mono ?_; rintro e w' ⟨rfl, rfl⟩)
  go_ret
  exact ⟨rfl, bl_alloc (Below.refl _ _) _⟩
theorem szField_yes (r s : Int) (A : Option Addr) (n c : Nat) (left : Int) (w : World) (h : (n : Int) ≤ left) (h1 : left ≤ 1048576) : Calls Try.prog 4 #[.agg #[.int .i64 r, .int .i64 s, .slice A n c], .int .i64 left] w fun e w' => e = .returned (.int .i64 (left - n)) ∧ Below w.heap.size w w' := by
  have h2 : 0 ≤ left - n := by omega
  go_enter Try.func4, Try.ntmps4
  go_wp2_with (go_at_call 11; refine (szInt64S_yes _ _ _ _ _ h h1).mono ?_; rintro e w' ⟨rfl, rfl⟩)
  go_ret
  exact ⟨rfl, bl_alloc (Below.refl _ _) _⟩
theorem OwnI.other {w : World} {g : Nat} {t : TypeId} {ns : List Int} (h : OwnI w g t ns) {p : Addr} (hp : g ≠ p.block) (u : Value) : OwnI (w.setCell p u) g t ns := h.of_block (Below.heap_setCell w p u g hp)
theorem bcell {W w1 : World} (hb : Below W.heap.size W w1) : (∀ b o, b < W.heap.size → w1.cell? ⟨b, o, none⟩ = W.cell? ⟨b, o, none⟩) ∧ (∀ b o, b < W.heap.size → w1.frozen? ⟨b, o, none⟩ = W.frozen? ⟨b, o, none⟩) :=
  ⟨fun b o h => hb.cell (p := ⟨b, o, none⟩) h, fun b o h => hb.frozen (p := ⟨b, o, none⟩) h⟩
def ToF (w : World) (r s : Int) (ns : List Int) (e : Ending) (w' : World) : Prop := ∃ g, e = .returned (.agg #[.int .i64 r, .int .i64 s, .slice (some ⟨g, 0, none⟩) ns.length ns.length]) ∧ w.heap.size ≤ g ∧ OwnI w' g 2 ns ∧ Below w.heap.size w w'
theorem toField_any (r s : Int) (A : Option Addr) (c : Nat) (ns : List Int) (w : World) (hr : RdI w A ns) (hn : ns.length ≤ 1048576) :
    Calls Try.prog 6 #[.agg #[.int .i64 r, .int .i64 s, .slice A ns.length c]] w (ToF w r s ns) := by
  have HR := Lib.hid hr
  clear hr
  go_enter Try.func6, Try.ntmps6
  go_wp2_with fail
  refine (toInt64S_any A c ns _ ?_ hn).mono ?_
  · exact HR.out.below (bl_alloc (bl_alloc (bl_alloc (Below.refl _ _) _) _) _)
  · rintro e w1 ⟨rfl, ho1, hb1⟩
    obtain ⟨hc, hf⟩ := bcell hb1
    have hz := hb1.size
    simp at hz
    go_wp2_with fail
    refine bodyPost_ret (v := .agg #[.int .i64 r, .int .i64 s, .slice (some ⟨w.heap.size + 1 + 1 + 1, 0, none⟩) ns.length ns.length]) (by simp [results, Try.results6, go_sem, hc]; try omega) rfl ⟨_, rfl, by omega, ?_, ?_⟩
    · have ho2 := ho1
      simp at ho2
      exact (((OwnI.other (OwnI.other ho2 (show w.heap.size + 1 + 1 + 1 ≠ w.heap.size + 1 + 1 by omega) _) (show w.heap.size + 1 + 1 + 1 ≠ w.heap.size + 1 by omega) _).other (show w.heap.size + 1 + 1 + 1 ≠ w.heap.size + 1 by omega) _).other (show w.heap.size + 1 + 1 + 1 ≠ w.heap.size + 1 by omega) _)
    · have hbw : Below w.heap.size w w1 := bl_trans (bl_alloc (bl_alloc (bl_alloc (Below.refl _ _) _) _) _) hb1
      exact bl_set (bl_set (bl_set (bl_set hbw _ _ (by omega) _) _ _ (by omega) _) _ _ (by omega) _) _ _ (by omega) _
theorem eqField_same (r s : Int) (A B : Option Addr) (c d : Nat) (ns : List Int) (w : World) (hA : RdI w A ns) (hB : RdI w B ns) (hn : ns.length ≤ 1048576) :
    Calls Try.prog 8 #[.agg #[.int .i64 r, .int .i64 s, .slice A ns.length c], .agg #[.int .i64 r, .int .i64 s, .slice B ns.length d]] w fun e w' => e = .returned (.bool true) ∧ Below w.heap.size w w' := by
  have hb := bl_alloc (bl_alloc (Below.refl w.heap.size w) (.cells #[.int .i64 r, .int .i64 s, .slice A ns.length c] 26)) (.cells #[.int .i64 r, .int .i64 s, .slice B ns.length d] 26)
  have HA := Lib.hid (hA.below hb)
  have HB := Lib.hid (hB.below hb)
  have HBb := Lib.hid hb
  clear hA hB hb
  go_enter Try.func8, Try.ntmps8
  go_wp2_with (go_at_call 20; refine (eqInt64S_same A B c d ns _ HA.out HB.out hn).mono ?_; rintro e w1 ⟨rfl, hb1⟩)
  go_ret
  exact ⟨rfl, bl_trans HBb.out hb1⟩
end Go.Proofs.Ytdbimgbekfiedaa
