/- Snow over a field: plain laws; rows of int64: append of a whole slice, a store. No condition. -/
import Derived.Test.YtdbimgbekfiedaaNumS
import Derived.Test.YtdbimgbekfiedaaFldOk
import Derived.WalkSpells
namespace Go.Proofs.Ytdbimgbekfiedaa
open Go.ChangeShapes Go.WideShapes Go.ChangeAt Go.RowKit Go.Deep Go.Joins
set_option linter.unusedVariables false
def mixM (ns : List Int) (m : Int) (k : Nat) : List Int := (ns.take k).map (· + m) ++ ns.drop k
theorem mixM_0 (ns : List Int) (m : Int) : mixM ns m 0 = ns := by simp [mixM]
theorem mixM_all (ns : List Int) (m : Int) : mixM ns m ns.length = ns.map (· + m) := by simp [mixM]
theorem mixM_len (ns : List Int) (m : Int) (k : Nat) : (mixM ns m k).length = ns.length := by simp [mixM]; omega
theorem mixM_at {ns : List Int} {k : Nat} (m : Int) (h : k < ns.length) : (mixM ns m k)[k]? = some ns[k] := by
  unfold mixM
  rw [List.getElem?_append_right (by simp; omega)]
  simp [Nat.min_eq_left (Nat.le_of_lt h), h]
theorem mixM_s {ns : List Int} {k : Nat} (m : Int) (h : k < ns.length) : mixM ns m (k + 1) = (mixM ns m k).set k (ns[k] + m) := by
  unfold mixM
  rw [List.take_succ_eq_append_getElem h, List.map_append, List.drop_eq_getElem_cons h]
  have hl : ((ns.take k).map (· + m)).length = k := by simp; omega
  rw [List.set_append_right _ _ (by omega), hl, Nat.sub_self, List.set_cons_zero, List.append_assoc]
  rfl
theorem OwnI.store {w : World} {g : Nat} {t : TypeId} {ns : List Int} (h : OwnI w g t ns) (k : Nat) (x : Int) (hk : k < ns.length) : OwnI (w.setCell ⟨g, k, none⟩ (.int .i64 x)) g t (ns.set k x) := by
  obtain ⟨c, hc, hl⟩ := h
  refine ⟨_, heap_setCell_same w g k c t _ hc, fun i y hy => ?_⟩
  rw [Array.getElem?_setIfInBounds]
  rw [List.getElem?_set] at hy
  by_cases e : k = i
  · subst e
    rw [if_pos rfl, if_pos hk] at hy
    injection hy with hy
    subst hy
    have := (Array.getElem?_eq_some_iff.1 (hl k _ (List.getElem?_eq_getElem hk))).1
    rw [if_pos rfl, if_pos this]
  · rw [if_neg e] at hy
    rw [if_neg e]
    exact hl i y hy
/-! ### the result -/
def overC (r s : Int) (ns : List Int) (m : Int) : Int := if okF r s ns then (if inB m 0 1000000 then (if (ns.map (· + m)).all okM then 0 else 6) else 2) else 1
def overV (r s : Int) (ns : List Int) (m : Int) : List Int := if overC r s ns m = 0 then ns.map (· + m) else []
def overR (r s : Int) (ns : List Int) (m : Int) : Int := if overC r s ns m = 0 then r else 0
def overS (r s : Int) (ns : List Int) (m : Int) : Int := if overC r s ns m = 0 then s else 0
def NoOver (r s : Int) (ns : List Int) (m c : Int) : Prop := overC r s ns m = c ∧ overR r s ns m = 0 ∧ overS r s ns m = 0 ∧ overV r s ns m = []
theorem over_no {r s : Int} {ns : List Int} {m c : Int} (h : overC r s ns m = c) (h0 : ¬ c = 0) : NoOver r s ns m c := ⟨h, by unfold overR; rw [h, if_neg h0], by unfold overS; rw [h, if_neg h0], by unfold overV; rw [h, if_neg h0]⟩
theorem over_1 {r s : Int} {ns : List Int} (h : okF r s ns = false) (m : Int) : NoOver r s ns m 1 := over_no (by unfold overC; rw [h]; rfl) (by decide)
theorem over_2 {r s : Int} {ns : List Int} {m : Int} (h : okF r s ns = true) (k : inB m 0 1000000 = false) : NoOver r s ns m 2 := over_no (by unfold overC; rw [h, k]; rfl) (by decide)
theorem over_6 {r s : Int} {ns : List Int} {m : Int} (h : okF r s ns = true) (k : inB m 0 1000000 = true) (l : (ns.map (· + m)).all okM = false) : NoOver r s ns m 6 := over_no (by unfold overC; rw [h, k, l]; rfl) (by decide)
theorem over_0 {r s : Int} {ns : List Int} {m : Int} (h : okF r s ns = true) (k : inB m 0 1000000 = true) (l : (ns.map (· + m)).all okM = true) : overC r s ns m = 0 ∧ overR r s ns m = r ∧ overS r s ns m = s ∧ overV r s ns m = ns.map (· + m) := by
  have e : overC r s ns m = 0 := by unfold overC; rw [h, k, l]; rfl
  exact ⟨e, by unfold overR; rw [if_pos e], by unfold overS; rw [if_pos e], by unfold overV; rw [if_pos e]⟩
theorem okF_map {r s : Int} {ns : List Int} (m : Int) (h : okF r s ns = true) : okF r s (ns.map (· + m)) = (ns.map (· + m)).all okM := by
  unfold okF at h
  simp only [Bool.and_eq_true, decide_eq_true_eq] at h
  exact okF_t h.1 h.2.1 (by rw [List.length_map]; exact h.2.2.1)
theorem overV_len (r s : Int) (ns : List Int) (m : Int) (hn : ns.length ≤ 1048576) : (overV r s ns m).length ≤ 64 := by
  unfold overV
  split
  · rename_i h
    rcases e : okF r s ns with _ | _
    · rw [(over_1 e m).1] at h; cases h
    · obtain ⟨_, _, _, _, _, h64, _⟩ := okF_yes e
      rw [List.length_map]; exact h64
  · simp
/-! ### append of a whole slice -/
theorem icells_app2 (l m : List Int) : icells l ++ icells m = icells (l ++ m) := by simp [icells]
theorem wpList_appI (w : World) {ops : Array Oper} {rest : List Oper} {o : Oper} {a : Act} {Q : Exit → Act → World → Prop} (hgd : o.guard = none) (s x : Operand)
    (ho : o.op = .call { callee := .builtin .append, args := #[s, x], argTypes := #[22, 22] })
    (base : Nat) (v : Value) (l ms : List Int) (g o' c : Nat) (hs : a.eval s = v) (hx : a.eval x = .slice (some ⟨g, o', none⟩) ms.length c) (hown : OwnN w base v l) (hr : RdI w (some ⟨g, o', none⟩) ms)
    (hlen : l.length + ms.length ≤ 1000000000) (hbase : base ≤ w.heap.size)
    (h : ∀ v' w', OwnN w' base v' (l ++ ms) → w.grownBy w' v.ownBlock → wpList Try.prog ops Q rest (a.put o.dst v') w') : wpList Try.prog ops Q (o :: rest) a w := by
  obtain ⟨i0, hi0, hz0, hz1, hz2⟩ := info_parts info_intN
  refine wpList_append_own w hgd s x 22 ho base 2 i0 (.int .i64 0) 1 8 Try.underlying22 hi0 hz0 hz1 hz2 rfl (by omega) v l.length (icells l) hs hown ⟨g, o', none⟩ ms.length c (icells ms) hx (by rw [icells_len]; omega) ?_ ?_ (by unfold maxLen; omega) (by omega) hbase ?_
  · intro j u hu
    have hj : j < ms.length := by have := (List.getElem?_eq_some_iff.1 hu).1; rwa [icells_len] at this
    have e := icells_at ms j _ (List.getElem?_eq_getElem hj)
    rw [hu] at e
    injection e with e
    subst e
    obtain ⟨g2, o2, hA, hc⟩ := hr j _ (List.getElem?_eq_getElem hj)
    injection hA with hA
    injection hA with h1 h2
    subst h1 h2
    rw [Go.WideShapes.add_plain]
    exact hc
  · intro u hu
    obtain ⟨n, _, rfl⟩ := List.mem_map.1 hu
    rfl
  · intro v' w' h2 h3 _
    refine h v' w' ?_ h3
    unfold OwnN
    rw [List.length_append, ← icells_app2]
    exact h2
def GivesN (w : World) (l : List Int) (e : Ending) (w' : World) : Prop := ∃ g c, e = .returned (.slice (some ⟨g, 0, none⟩) l.length c) ∧ l.length ≤ c ∧ w.heap.size ≤ g ∧ OwnI w' g 2 l ∧ Below w.heap.size w w'
theorem GivesN.of {w w' : World} {v : Value} {l : List Int} (h : OwnN w' w.heap.size v l) (h0 : 0 < l.length) (hb : Below w.heap.size w w') : GivesN w l (.returned v) w' := by
  obtain ⟨A, c, rfl, hc⟩ := h.form
  rcases h.io with e | ⟨g, rfl, hB, ho⟩
  · rw [e] at h0; simp at h0
  · exact ⟨g, c, rfl, hc, hB, ho, hb⟩
theorem l00Own_any (g o c : Nat) (ns : List Int) (w : World) (hr : RdI w (some ⟨g, o, none⟩) ns) (hn : ns.length ≤ 1048576) (h0 : 0 < ns.length) :
    Calls Try.prog 14 #[.slice (some ⟨g, o, none⟩) ns.length c] w (GivesN w ns) := by
  have HB := Lib.hid (bl_alloc (Below.refl w.heap.size w) (.cells #[] 2))
  have HR := Lib.hid (hr.below HB.out)
  have HO := Lib.hid (OwnN.empty w w.heap.size (Nat.le_refl _))
  clear hr
  go_enter Try.func14, Try.ntmps14
  go_wp2_with (at_builtin; refine wpList_appI _ rfl (.tmp 3) (.tmp 4) rfl w.heap.size _ [] ns g o c rfl rfl HO.out HR.out (by simp; omega) (by simp) ?_; intro v1 w1 ho1 hg1)
  have HB1 := Lib.hid (Below.grown HB.out hg1 HB.out.size HO.out.ge)
  have HO1 := Lib.hid ho1
  clear ho1 hg1
  go_ret
  exact GivesN.of HO1.out h0 HB1.out
theorem cloneI_any (g o c : Nat) (ns : List Int) (w : World) (hr : RdI w (some ⟨g, o, none⟩) ns) (hn : ns.length ≤ 1048576) (h0 : 0 < ns.length) :
    Calls Try.prog 19 #[.slice (some ⟨g, o, none⟩) ns.length c] w (GivesN w ns) := by
  have HB := Lib.hid (bl_alloc (Below.refl w.heap.size w) (.cells #[] 2))
  have HR := Lib.hid (hr.below HB.out)
  have HO := Lib.hid (OwnN.empty w w.heap.size (Nat.le_refl _))
  have hq := fun (w : World) => Lib.run_eql_slice_nil (P := Try.prog) w 22 _ (some ⟨g, o, none⟩) ns.length c 0 0 Try.underlying22
  clear hr
  go_enter Try.func19, Try.ntmps19
  go_wp2_with (at_builtin; refine wpList_appI _ rfl (.tmp 5) (.tmp 6) rfl w.heap.size _ [] ns g o c rfl rfl HO.out HR.out (by simp; omega) (by simp) ?_; intro v1 w1 ho1 hg1)
  have HB1 := Lib.hid (Below.grown HB.out hg1 HB.out.size HO.out.ge)
  have HO1 := Lib.hid ho1
  clear ho1 hg1
  go_ret
  exact GivesN.of HO1.out h0 HB1.out
end Go.Proofs.Ytdbimgbekfiedaa
