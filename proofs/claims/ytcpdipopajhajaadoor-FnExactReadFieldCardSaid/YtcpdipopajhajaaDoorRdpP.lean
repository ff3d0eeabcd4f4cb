/- A profile read from its text: plain laws. No program in sight, no condition. -/
import Derived.Test.YtcpdipopajhajaaDoorRdlP
import Derived.Test.YtcpdipopajhajaaDoorProfP
namespace Go.Proofs.YtcpdipopajhajaaDoor
open Go.ChangeShapes Go.WideShapes Go.ChangeAt Go.RowKit
set_option linter.unusedVariables false
def lyOf (ns : List Int) : Ly := ⟨ns.getD 0 0, ns.getD 1 0, ns.getD 2 0, ns.getD 3 0, ns.getD 4 0, ns.getD 5 0, ns.getD 6 0⟩
theorem lyOf_7 {ns : List Int} (h : ns.length = 7) : layL (lyOf ns) = ns := by
  match ns, h with
  | [a, b, c, d, e, f, g], _ => rfl
/-- The layer with a text; whether there is one. -/
def lyP (t : ByteArray) : Ly := lyOf (rdV t)
def sP (t : ByteArray) : Bool := rdOk t && decide ((rdV t).length = 7)
theorem sP_yes {t : ByteArray} (h : sP t = true) : rdOk t = true ∧ (rdV t).length = 7 := by
  unfold sP at h
  rw [Bool.and_eq_true, decide_eq_true_eq] at h
  exact h
theorem sP_no {t : ByteArray} (h : sP t = false) : rdOk t = false ∨ ¬ (rdV t).length = 7 := by
  unfold sP at h
  rw [Bool.and_eq_false_iff, decide_eq_false_iff_not] at h
  exact h
theorem rdV_le (s : ByteArray) : (rdV s).length ≤ 64 := by
  unfold rdV
  split
  · simp
  · rename_i h0
    split
    · rename_i h
      unfold rdOk at h
      rw [decide_eq_false h0, Bool.false_or, Bool.and_eq_true, decide_eq_true_eq] at h
      rw [List.length_map]
      exact h.1
    · simp
theorem rd_text {t : ByteArray} (h : rdOk t = true) (h7 : 0 < (rdV t).length) : listS (rdV t) = t := by
  have hd : ¬ t = ⟨#[45]⟩ := fun e => by rw [(rd_dash e).2] at h7; simp at h7
  have hh := h
  unfold rdOk at hh
  rw [decide_eq_false hd, Bool.false_or, Bool.and_eq_true, decide_eq_true_eq] at hh
  obtain ⟨h64, ho⟩ := hh
  have ha : (pieces t 44).all nP = true := by
    rw [List.all_eq_true] at ho ⊢
    intro x hx
    have := ho x hx
    unfold okP at this
    rw [Bool.and_eq_true] at this
    exact this.1
  have hf := rd_fits h64 ha
  rw [ho] at hf
  rw [(rd_all hd h64 ho).2, ← listT_t hf]
  exact rd_back ha hf
theorem layS_P {t : ByteArray} (h : sP t = true) : layS (lyP t) = t := by
  obtain ⟨h1, h2⟩ := sP_yes h
  unfold layS lyP
  rw [lyOf_7 h2]
  exact rd_text h1 (by omega)
theorem sP_empty : sP ⟨#[]⟩ = false := by
  have h : rdOk ⟨#[]⟩ = false := (rd_bad (s := ⟨#[]⟩) (by decide) 0 (by decide) (okP_n (by decide))).1
  unfold sP
  rw [h]
  rfl
/-! ### a whole profile -/
def rpOk (s : ByteArray) : Bool := decide (s = ⟨#[45]⟩) || ((pieces s 59).all sP && okL ((pieces s 59).map lyP))
def rpV (s : ByteArray) : List Ly := if s = ⟨#[45]⟩ then [] else if rpOk s then (pieces s 59).map lyP else []
theorem rp_dash {s : ByteArray} (h : s = ⟨#[45]⟩) : rpOk s = true ∧ rpV s = [] := ⟨by unfold rpOk; rw [decide_eq_true h]; rfl, by unfold rpV; rw [if_pos h]⟩
theorem rp_no {s : ByteArray} (h : ¬ s = ⟨#[45]⟩) (k : ((pieces s 59).all sP && okL ((pieces s 59).map lyP)) = false) : rpOk s = false ∧ rpV s = [] := by
  have e : rpOk s = false := by unfold rpOk; rw [decide_eq_false h, k]; rfl
  exact ⟨e, by unfold rpV; rw [if_neg h, e]; rfl⟩
theorem rp_bad {s : ByteArray} (h : ¬ s = ⟨#[45]⟩) (k : Nat) (hk : k < (pieces s 59).length) (hb : sP (pieces s 59)[k] = false) : rpOk s = false ∧ rpV s = [] := by
  refine rp_no h ?_
  rw [Bool.and_eq_false_iff]
  refine .inl ?_
  cases e : (pieces s 59).all sP
  · rfl
  · have := List.all_eq_true.1 e _ (List.getElem_mem hk)
    rw [hb] at this
    cases this
theorem rp_nok {s : ByteArray} (h : ¬ s = ⟨#[45]⟩) (k : okL ((pieces s 59).map lyP) = false) : rpOk s = false ∧ rpV s = [] := rp_no h (by rw [k]; simp)
theorem rp_all {s : ByteArray} (h : ¬ s = ⟨#[45]⟩) (a : (pieces s 59).all sP = true) (k : okL ((pieces s 59).map lyP) = true) : rpOk s = true ∧ rpV s = (pieces s 59).map lyP := by
  have e : rpOk s = true := by unfold rpOk; rw [k, a]; simp
  exact ⟨e, by unfold rpV; rw [if_neg h, if_pos e]⟩
def lysP (ps : List ByteArray) (k : Nat) : List Ly := (ps.take k).map lyP
theorem lysP_s {ps : List ByteArray} {k : Nat} (h : k < ps.length) : lysP ps (k + 1) = lysP ps k ++ [lyP ps[k]] := by
  unfold lysP
  rw [List.take_succ_eq_append_getElem h, List.map_append]
  rfl
theorem lysP_all (ps : List ByteArray) : lysP ps ps.length = ps.map lyP := by unfold lysP; rw [List.take_length]
theorem rp_ne {s : ByteArray} (a : (pieces s 59).all sP = true) : ¬ s = ⟨#[]⟩ := by
  intro e
  subst e
  rw [pieces_empty, List.all_cons, sP_empty] at a
  cases a
theorem rp_ne2 {s : ByteArray} (a : 1 < (pieces s 59).length) : ¬ s = ⟨#[]⟩ := by
  intro e
  subst e
  rw [pieces_empty] at a
  simp at a
/-- The layers' text is the text. -/
theorem rp_back {s : ByteArray} (a : (pieces s 59).all sP = true) (k : okL ((pieces s 59).map lyP) = true) : profT ((pieces s 59).map lyP) = s := by
  have h0 : 0 < ((pieces s 59).map lyP).length := by rw [List.length_map, pieces_count]; omega
  rw [profT_t k, profS_ne h0]
  apply eq_of_list
  show profL ((pieces s 59).map lyP) ((pieces s 59).map lyP).length = _
  unfold profL
  rw [List.take_length, List.map_map]
  have e : (pieces s 59).map ((fun x => (layS x).data.toList) ∘ lyP) = (pieces s 59).map (·.data.toList) := by
    refine List.map_congr_left fun t ht => ?_
    show (layS (lyP t)).data.toList = _
    rw [layS_P (List.all_eq_true.1 a t ht)]
  rw [e, join_pieces]
/-- What the program compares. -/
theorem rp_end {s : ByteArray} (hd : ¬ s = ⟨#[45]⟩) (ha : (piecesN s 59 17).all sP = true) :
    (profT ((piecesN s 59 17).map lyP) = s → rpOk s = true ∧ rpV s = (piecesN s 59 17).map lyP) ∧ (¬ profT ((piecesN s 59 17).map lyP) = s → rpOk s = false ∧ rpV s = []) := by
  by_cases h16 : (pieces s 59).length ≤ 16
  · have e := piecesN_all (s := s) (c := 59) (n := 17) (by omega) (by omega)
    rw [e] at ha ⊢
    rcases ho : okL ((pieces s 59).map lyP) with _ | _
    · refine ⟨fun h => ?_, fun _ => rp_nok hd ho⟩
      rw [profT_f ho] at h
      exact absurd h.symm (rp_ne ha)
    · exact ⟨fun _ => rp_all hd ha ho, fun h => absurd (rp_back ha ho) h⟩
  · refine ⟨fun h => ?_, fun _ => rp_nok hd (okL_n (by rw [List.length_map]; omega))⟩
    have hl : (piecesN s 59 17).length = 17 := by
      by_cases h17 : (pieces s 59).length ≤ 17
      · rw [piecesN_all (by omega) h17]; omega
      · exact piecesN_full (by omega) (by omega)
    rw [profT_f (okL_n (by rw [List.length_map]; omega))] at h
    exact absurd h.symm (rp_ne2 (by omega))
theorem rp_badN {s : ByteArray} (hd : ¬ s = ⟨#[45]⟩) (k : Nat) (hk : k < (piecesN s 59 17).length) (hb : sP (piecesN s 59 17)[k] = false) : rpOk s = false ∧ rpV s = [] := by
  by_cases h17 : (pieces s 59).length ≤ 17
  · have e := piecesN_all (s := s) (c := 59) (n := 17) (by omega) h17
    have hk' : k < (pieces s 59).length := by rw [← e]; exact hk
    refine rp_bad hd k hk' ?_
    have e2 : (pieces s 59)[k] = (piecesN s 59 17)[k] := by congr 1; exact e.symm
    rw [e2]; exact hb
  · exact rp_nok hd (okL_n (by rw [List.length_map]; omega))
/-! ### how many pieces there are -/
theorem lens_ge : ∀ (xs : List (List UInt8)), (∀ x ∈ xs, x ≠ []) → xs.length ≤ Lib.lens xs
  | [], _ => Nat.zero_le _
  | x :: r, h => by
    have ih := lens_ge r fun y hy => h y (List.mem_cons_of_mem _ hy)
    have hx : 0 < x.length := List.length_pos_iff.2 (h x List.mem_cons_self)
    unfold Lib.lens at ih ⊢
    rw [List.map_cons, List.sum_cons, List.length_cons]
    omega
theorem cutL_half (c : UInt8) (l : List UInt8) (h : ∀ x ∈ cutL c l, x ≠ []) : 2 * (cutL c l).length ≤ l.length + 1 := by
  have hj := join_cutL c l
  have hn := cutL_ne c l
  have hl := lens_ge _ h
  cases e : cutL c l with
  | nil => exact absurd e hn
  | cons x r =>
    rw [e] at hj hl
    have := congrArg List.length hj
    rw [Lib.join_length] at this
    simp only [List.length_cons, List.length_nil] at this hl ⊢
    omega
theorem pieces_half {s : ByteArray} (a : (pieces s 59).all sP = true) : 2 * (pieces s 59).length ≤ s.size + 1 := by
  have h := cutL_half 59 s.data.toList fun x hx e => by
    have hm : asS x ∈ pieces s 59 := List.mem_map.2 ⟨x, hx, rfl⟩
    have h1 := List.all_eq_true.1 a _ hm
    subst e
    rw [show asS [] = ⟨#[]⟩ from rfl, sP_empty] at h1
    cases h1
  rw [lst_len] at h
  unfold pieces
  rw [List.length_map]
  exact h
theorem rpV_len (s : ByteArray) : (rpV s).length ≤ 16 := by
  unfold rpV
  split
  · simp
  · rename_i h0
    split
    · rename_i h
      unfold rpOk at h
      rw [decide_eq_false h0, Bool.false_or, Bool.and_eq_true] at h
      have := okL_len h.2
      exact this
    · simp
end Go.Proofs.YtcpdipopajhajaaDoor
