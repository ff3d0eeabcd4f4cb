/- A field read from its text: plain laws. No program in sight, no condition. -/
import Derived.Test.YtcpdipopajhajaaDoorRdpP
import Derived.Test.YtcpdipopajhajaaDoorFldT
import Derived.Lib.IndexMore
namespace Go.Proofs.YtcpdipopajhajaaDoor
open Go.ChangeShapes Go.WideShapes Go.ChangeAt Go.RowKit
set_option linter.unusedVariables false
/-! ### a text cut at the first byte of a kind -/
def cA (s : ByteArray) (c : UInt8) : ByteArray := asS (Lib.cut s.data.toList [c]).1
def cB (s : ByteArray) (c : UInt8) : ByteArray := asS (Lib.cut s.data.toList [c]).2.1
theorem cut_y (c : UInt8) (l : List UInt8) (h : 0 ≤ Lib.index l [c]) : cutL c l = (Lib.cut l [c]).1 :: cutL c (Lib.cut l [c]).2.1 := by
  have hc : Lib.cut l [c] = (l.take (Lib.index l [c]).toNat, l.drop ((Lib.index l [c]).toNat + [c].length), true) := by unfold Lib.cut; rw [if_pos h]
  rw [hc]
  have e := splitK_more c l (l.count c + 1) (by omega)
  rw [splitK_s, if_neg (by simp; omega)] at e
  rw [← e, Nat.add_zero]
  congr 1
  exact splitK_more c _ _ (List.Sublist.count_le c (List.drop_sublist _ _))
theorem cut_n (c : UInt8) (l : List UInt8) (h : ¬ 0 ≤ Lib.index l [c]) : cutL c l = [l] ∧ (Lib.cut l [c]).1 = l ∧ (Lib.cut l [c]).2.1 = [] := by
  have hc : Lib.cut l [c] = (l, [], false) := by unfold Lib.cut; rw [if_neg h]
  have hm : Lib.index l [c] = -1 := by have := Lib.index_ge l [c]; omega
  have e := splitK_more c l (l.count c + 1) (by omega)
  rw [splitK_s, hm] at e
  exact ⟨e.symm, by rw [hc], by rw [hc]⟩
/-- The byte is there, and the pieces are what is ahead of it and the pieces of what is behind it; or it is not there. -/
theorem pieces_cut (s : ByteArray) (c : UInt8) : pieces s c = cA s c :: pieces (cB s c) c ∨ (pieces s c = [s] ∧ cA s c = s ∧ cB s c = ⟨#[]⟩) := by
  by_cases h : 0 ≤ Lib.index s.data.toList [c]
  · refine .inl ?_
    unfold pieces
    rw [cut_y c _ h]
    rfl
  · obtain ⟨h1, h2, h3⟩ := cut_n c _ h
    refine .inr ⟨?_, ?_, ?_⟩
    · unfold pieces; rw [h1]; exact congrArg (· :: []) (asS_data s)
    · unfold cA; rw [h2]; exact asS_data s
    · unfold cB; rw [h3]; rfl
theorem pieces_2 {s : ByteArray} {c : UInt8} (h : (pieces s c).length = 2) : pieces s c = [cA s c, cB s c] := by
  rcases pieces_cut s c with e | ⟨e, _, _⟩
  · rw [e] at h ⊢
    rcases pieces_cut (cB s c) c with e2 | ⟨e2, _, _⟩
    · rw [e2] at h
      have := pieces_count (cB (cB s c) c) c
      simp only [List.length_cons] at h
      omega
    · rw [e2]
  · rw [e] at h; simp at h
theorem pieces_2t {s : ByteArray} {c : UInt8} (h1 : ¬ cB s c = ⟨#[]⟩) (h2 : pieces (cB s c) c = [cB s c]) : (pieces s c).length = 2 := by
  rcases pieces_cut s c with e | ⟨_, _, e⟩
  · rw [e, h2]; rfl
  · exact absurd e h1
theorem pieces_join2 {s a b : ByteArray} {c : UInt8} (h : pieces s c = [a, b]) : s = a ++ ⟨#[c]⟩ ++ b := by
  have e := join_pieces s c
  rw [h] at e
  have e2 : s.data.toList = a.data.toList ++ [c] ++ b.data.toList := by
    rw [← e]
    show Lib.join [a.data.toList, b.data.toList] [c] = _
    rw [Lib.join_cons]
    unfold Lib.joinTail
    simp
  apply eq_of_list
  rw [e2, ByteArray.data_append, ByteArray.data_append]
  simp
/-! ### no such byte -/
theorem cutL_not (c : UInt8) : ∀ l : List UInt8, (∀ b ∈ l, b ≠ c) → cutL c l = [l]
  | [], _ => rfl
  | x :: r, h => by
    rw [cutL_miss (h x List.mem_cons_self), cutL_not c r fun b hb => h b (List.mem_cons_of_mem _ hb)]
    rfl
theorem pieces_not {s : ByteArray} {c : UInt8} (h : ∀ b ∈ s.data.toList, b ≠ c) : pieces s c = [s] := by
  unfold pieces
  rw [cutL_not c _ h]
  exact congrArg (· :: []) (asS_data s)
theorem numB_mem {l : List UInt8} (h : numB l = true) {b : UInt8} (hb : b ∈ l) : b = 45 ∨ isD b = true := by
  obtain ⟨_, _, _, ha⟩ := numB_yes h
  by_cases h45 : l.head? = some 45
  · obtain ⟨r, rfl⟩ := head45 h45
    rw [body_n] at ha
    rcases List.mem_cons.1 hb with e | hb
    · exact .inl e
    · exact .inr (List.all_eq_true.1 ha b hb)
  · rw [body_p h45] at ha
    exact .inr (List.all_eq_true.1 ha b hb)
theorem mem_join {x : UInt8} {xs : List (List UInt8)} {sep : List UInt8} (h : x ∈ Lib.join xs sep) : x ∈ sep ∨ ∃ y ∈ xs, x ∈ y := by
  cases xs with
  | nil => rw [Lib.join_nil] at h; cases h
  | cons y r =>
    rw [Lib.join_cons, List.mem_append] at h
    rcases h with h | h
    · exact .inr ⟨y, List.mem_cons_self, h⟩
    · unfold Lib.joinTail at h
      obtain ⟨z, hz, hx⟩ := List.mem_flatten.1 h
      obtain ⟨u, hu, rfl⟩ := List.mem_map.1 hz
      rcases List.mem_append.1 hx with hx | hx
      · exact .inl hx
      · exact .inr ⟨u, List.mem_cons_of_mem _ hu, hx⟩
theorem isD_ne {b c : UInt8} (h : isD b = true) (hc : isD c = false) : b ≠ c := fun e => by rw [e, hc] at h; cases h
theorem nP_not {t : ByteArray} (h : nP t = true) {c : UInt8} (h45 : c ≠ 45) (hc : isD c = false) : ∀ b ∈ t.data.toList, b ≠ c := fun b hb e => by
  rcases numB_mem h hb with h1 | h1
  · exact h45 (e ▸ h1)
  · exact isD_ne h1 hc e
theorem rdOk_not {t : ByteArray} (h : rdOk t = true) {c : UInt8} (h45 : c ≠ 45) (h44 : c ≠ 44) (hc : isD c = false) : ∀ b ∈ t.data.toList, b ≠ c := fun b hb e => by
  by_cases hd : t = ⟨#[45]⟩
  · subst hd
    have : b = 45 := by simpa using hb
    exact h45 (e ▸ this)
  · unfold rdOk at h
    rw [decide_eq_false hd, Bool.false_or, Bool.and_eq_true] at h
    have hj := join_cutL 44 t.data.toList
    rw [← hj] at hb
    rcases mem_join hb with h1 | ⟨y, hy, h1⟩
    · have : b = 44 := by simpa using h1
      exact h44 (e ▸ this)
    · have hm : asS y ∈ pieces t 44 := List.mem_map.2 ⟨y, hy, rfl⟩
      have ho := List.all_eq_true.1 h.2 _ hm
      unfold okP at ho
      rw [Bool.and_eq_true] at ho
      exact nP_not ho.1 h45 hc b h1 e
theorem rdOk_text {t : ByteArray} (h : rdOk t = true) : listS (rdV t) = t := by
  by_cases hd : t = ⟨#[45]⟩
  · rw [(rd_dash hd).2, hd]; rfl
  · refine rd_text h ?_
    have hh := h
    unfold rdOk at hh
    rw [decide_eq_false hd, Bool.false_or, Bool.and_eq_true, decide_eq_true_eq] at hh
    rw [(rd_all hd hh.1 hh.2).2, List.length_map, pieces_count]
    omega
theorem nP_text {t : ByteArray} (h : nP t = true) : decS (vP t) = t := by
  apply eq_of_list
  show Lib.itoa (rnV t.data.toList) = _
  rw [rn_t h, num_itoa h]
theorem nP_empty : nP ⟨#[]⟩ = false := by decide
theorem rdOk_empty : rdOk ⟨#[]⟩ = false := (rd_bad (s := ⟨#[]⟩) (by decide) 0 (by decide) (okP_n (by decide))).1
/-! ### the parts of a field's text -/
def fA (s : ByteArray) : ByteArray := cA s 32
def fT (s : ByteArray) : ByteArray := cB s 32
def fR (s : ByteArray) : ByteArray := cA (fA s) 120
def fC (s : ByteArray) : ByteArray := cB (fA s) 120
def rfOk (s : ByteArray) : Bool := nP (fR s) && (nP (fC s) && (rdOk (fT s) && decide (fldT (vP (fR s)) (vP (fC s)) (rdV (fT s)) = s)))
def rfR (s : ByteArray) : Int := if rfOk s then vP (fR s) else 0
def rfC (s : ByteArray) : Int := if rfOk s then vP (fC s) else 0
def rfV (s : ByteArray) : List Int := if rfOk s then rdV (fT s) else []
def NoField (s : ByteArray) : Prop := rfOk s = false ∧ rfR s = 0 ∧ rfC s = 0 ∧ rfV s = []
theorem rf_no {s : ByteArray} (h : rfOk s = false) : NoField s := ⟨h, by unfold rfR; rw [h]; rfl, by unfold rfC; rw [h]; rfl, by unfold rfV; rw [h]; rfl⟩
theorem rf_yes {s : ByteArray} (h : rfOk s = true) : rfOk s = true ∧ rfR s = vP (fR s) ∧ rfC s = vP (fC s) ∧ rfV s = rdV (fT s) := ⟨h, by unfold rfR; rw [if_pos h], by unfold rfC; rw [if_pos h], by unfold rfV; rw [if_pos h]⟩
theorem rf_parts {s : ByteArray} (h : rfOk s = true) : nP (fR s) = true ∧ nP (fC s) = true ∧ rdOk (fT s) = true ∧ fldT (vP (fR s)) (vP (fC s)) (rdV (fT s)) = s := by
  unfold rfOk at h
  simp only [Bool.and_eq_true, decide_eq_true_eq] at h
  exact ⟨h.1, h.2.1, h.2.2.1, h.2.2.2⟩
theorem rf_r {s : ByteArray} (h : nP (fR s) = false) : NoField s := rf_no (by unfold rfOk; rw [h]; rfl)
theorem rf_c {s : ByteArray} (h : nP (fC s) = false) : NoField s := rf_no (by unfold rfOk; rw [h]; simp)
theorem rf_t {s : ByteArray} (h : rdOk (fT s) = false) : NoField s := rf_no (by unfold rfOk; rw [h]; simp)
theorem rf_e {s : ByteArray} (h : ¬ fldT (vP (fR s)) (vP (fC s)) (rdV (fT s)) = s) : NoField s := rf_no (by unfold rfOk; rw [decide_eq_false h]; simp)
theorem rf_all {s : ByteArray} (h1 : nP (fR s) = true) (h2 : nP (fC s) = true) (h3 : rdOk (fT s) = true) (h4 : fldT (vP (fR s)) (vP (fC s)) (rdV (fT s)) = s) : rfOk s = true := by
  unfold rfOk
  rw [h1, h2, h3, decide_eq_true h4]
  rfl
/-- Two words, or it is no field. -/
theorem rf_2 {s : ByteArray} (h : ¬ (pieces s 32).length = 2) : NoField s := by
  rcases e : rfOk s with _ | _
  · exact rf_no e
  · obtain ⟨h1, h2, h3, h4⟩ := rf_parts e
    exact absurd (pieces_2t (fun e2 => by rw [show fT s = cB s 32 from rfl, e2, rdOk_empty] at h3; cases h3) (pieces_not (rdOk_not h3 (by decide) (by decide) (by decide)))) h
theorem rf_x {s : ByteArray} (h : ¬ (pieces (fA s) 120).length = 2) : NoField s := by
  rcases e : rfOk s with _ | _
  · exact rf_no e
  · obtain ⟨h1, h2, h3, h4⟩ := rf_parts e
    exact absurd (pieces_2t (fun e2 => by rw [show fC s = cB (fA s) 120 from rfl, e2, nP_empty] at h2; cases h2) (pieces_not (nP_not h2 (by decide) (by decide)))) h
theorem rf_nok {s : ByteArray} (h : okF (vP (fR s)) (vP (fC s)) (rdV (fT s)) = false) : NoField s := by
  rcases e : rfOk s with _ | _
  · exact rf_no e
  · obtain ⟨h1, h2, h3, h4⟩ := rf_parts e
    rw [fldT_f h] at h4
    exfalso
    subst h4
    exact absurd h1 (by decide)
theorem rf_ok {s : ByteArray} (p2 : (pieces s 32).length = 2) (x2 : (pieces (fA s) 120).length = 2) (h1 : nP (fR s) = true) (h2 : nP (fC s) = true) (h3 : rdOk (fT s) = true) (h4 : okF (vP (fR s)) (vP (fC s)) (rdV (fT s)) = true) : rfOk s = true := by
  refine rf_all h1 h2 h3 ?_
  rw [fldT_t h4]
  unfold fldS
  rw [nP_text h1, nP_text h2, rdOk_text h3]
  have e1 : s = fA s ++ ⟨#[32]⟩ ++ fT s := pieces_join2 (pieces_2 p2)
  have e2 : fA s = fR s ++ ⟨#[120]⟩ ++ fC s := pieces_join2 (pieces_2 x2)
  rw [← e2]
  exact e1.symm
theorem cA_size (s : ByteArray) (c : UInt8) : (cA s c).size ≤ s.size := by
  unfold cA Lib.cut
  split
  · show (s.data.toList.take _).toArray.size ≤ _
    rw [List.size_toArray, List.length_take, lst_len]
    omega
  · rw [asS_data]; exact Nat.le_refl _
theorem cB_size (s : ByteArray) (c : UInt8) : (cB s c).size ≤ s.size := by
  unfold cB Lib.cut
  split
  · show (s.data.toList.drop _).toArray.size ≤ _
    rw [List.size_toArray, List.length_drop, lst_len]
    omega
  · exact Nat.zero_le _
end Go.Proofs.YtcpdipopajhajaaDoor
