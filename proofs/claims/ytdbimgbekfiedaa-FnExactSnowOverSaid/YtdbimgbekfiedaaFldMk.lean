/- Marks in the masses of a field that the call returned: the contracts of the law's helpers, with what they leave alone. No condition. -/
import Derived.Test.YtdbimgbekfiedaaFldBx
namespace Go.Proofs.Ytdbimgbekfiedaa
open Go.ChangeShapes Go.WideShapes Go.ChangeAt Go.RowKit Go.Deep Go.Joins
set_option linter.unusedVariables false
/-- Whatever block these numbers do not lie in is as it was. -/
def KeepsBut (A : Option Addr) (ns : List Int) (w w' : World) : Prop := ∀ p, p < w.heap.size → (ns ≠ [] → ∀ g o, A = some ⟨g, o, none⟩ → p ≠ g) → w'.heap[p]? = w.heap[p]?
theorem KeepsBut.refl (A : Option Addr) (ns : List Int) (w : World) : KeepsBut A ns w w := fun _ _ _ => rfl
theorem FBx.keep {w w' : World} {ns : List Int} {p : Nat} {r s : Int} {A A' : Option Addr} {n c : Nat} (h : FBx w p r s A n c) (hk : KeepsBut A' ns w w') (hp : ns ≠ [] → ∀ g o, A' = some ⟨g, o, none⟩ → p ≠ g) : FBx w' p r s A n c :=
  ⟨(World.cell?_of_block (a := ⟨p, _, none⟩) (hk p h.lt hp)).trans h.c0, (World.cell?_of_block (a := ⟨p, _, none⟩) (hk p h.lt hp)).trans h.c1, (World.cell?_of_block (a := ⟨p, _, none⟩) (hk p h.lt hp)).trans h.c2⟩
def MarkedF (w : World) (k : Int) (B : Nat) (A : Option Addr) (ns : List Int) (e : Ending) (w' : World) : Prop := e = .returned (.int .i64 (k + ns.length)) ∧ OwnIO w' B A (markI k ns.length) ∧ Below B w w' ∧ KeepsBut A ns w w'
theorem OwnIO.ne {w : World} {B p : Nat} {A : Option Addr} {ns : List Int} (h : OwnIO w B A ns) (h0 : ns ≠ []) (hp : w.heap.size ≤ p) : ∀ g o, A = some ⟨g, o, none⟩ → p ≠ g := fun g o hA => by
  rcases h with e | ⟨g', e, _, ho⟩
  · exact absurd e h0
  · rw [hA] at e
    injection e with e
    injection e with e _
    have := ho.lt
    omega
theorem markI_all (A : Option Addr) (c : Nat) (ns : List Int) (k : Int) (w : World) (B : Nat) (h : OwnIO w B A ns) (hB : B ≤ w.heap.size) (hn : ns.length ≤ 1048576) (h0 : 0 ≤ k) (h1 : k ≤ 10000000) :
    Calls Try.prog 21 #[.slice A ns.length c, .int .i64 k] w (MarkedF w k B A ns) := by
  by_cases hne : ns = []
  · subst hne
    refine (markI_nil A c k w).mono fun e w' ⟨he, hw⟩ => ?_
    subst hw
    exact ⟨by rw [he]; simp, .inl rfl, Below.refl _ _, KeepsBut.refl _ _ _⟩
  · rcases h with rfl | ⟨g, rfl, hBg, h⟩
    · exact absurd rfl hne
    · exact (markI_own g c ns k w h hn h0 h1).mono fun e w' ⟨he, h2, hg⟩ => ⟨he, .inr ⟨g, rfl, hBg, h2⟩, ⟨hg.os, hg.tape, hg.output, hg.size, fun b hb => hg.block b (by omega) (fun e => by injection e with e; omega)⟩,
        fun p hp hn => hg.block p hp (fun e => by injection e with e; exact hn hne g 0 rfl e)⟩
theorem markField_any (r s : Int) (A : Option Addr) (c : Nat) (ns : List Int) (k : Int) (w : World) (B : Nat) (h : OwnIO w B A ns) (hB : B ≤ w.heap.size) (hn : ns.length ≤ 1048576) (h0 : 0 ≤ k) (h1 : k ≤ 10000000) :
    Calls Try.prog 9 #[.agg #[.int .i64 r, .int .i64 s, .slice A ns.length c], .int .i64 k] w (MarkedF w k B A ns) := by
  have hb := bl_alloc (Below.refl w.heap.size w) (.cells #[.int .i64 r, .int .i64 s, .slice A ns.length c] 26)
  have HC := Lib.hid (markI_all A c ns k _ B (h.below hb) (Nat.le_trans hB hb.size) hn h0 h1)
  have HBb := Lib.hid hb
  clear hb
  go_enter Try.func9, Try.ntmps9
  go_wp2_with fail
  refine HC.out.mono ?_
  rintro e w1 ⟨rfl, ho, hb1, hk⟩
  have HO := Lib.hid ho
  have HB1 := Lib.hid hb1
  have HK := Lib.hid hk
  clear ho hb1 hk
  go_wp2_with fail
  go_ret
  exact ⟨rfl, HO.out, (HBb.out.mono hB).trans HB1.out, fun p hp hne => (HK.out p (Nat.lt_of_lt_of_le hp HBb.out.size) hne).trans (HBb.out.block p hp)⟩
theorem heldField_any (r s : Int) (A : Option Addr) (c : Nat) (n : Nat) (k : Int) (w : World) (h : RdI w A (markI k n)) (hn : n ≤ 1048576) (h0 : 0 ≤ k) (h1 : k ≤ 10000000) :
    Calls Try.prog 10 #[.agg #[.int .i64 r, .int .i64 s, .slice A n c], .int .i64 k] w fun e w' => e = .returned (.int .i64 (k + n)) ∧ Below w.heap.size w w' := by
  have hb := bl_alloc (Below.refl w.heap.size w) (.cells #[.int .i64 r, .int .i64 s, .slice A n c] 26)
  have HC := Lib.hid (heldI_any A c n k _ (h.below hb) hn h0 h1)
  have HBb := Lib.hid hb
  have d1 : decide (k + (n : Int) < 0) = false := decide_eq_false (by omega)
  clear hb h
  go_enter Try.func10, Try.ntmps10
  go_wp2_with fail
  refine HC.out.mono ?_
  rintro e w1 ⟨rfl, rfl⟩
  go_wp2_with fail
  go_ret
  exact ⟨rfl, HBb.out⟩
end Go.Proofs.Ytdbimgbekfiedaa
