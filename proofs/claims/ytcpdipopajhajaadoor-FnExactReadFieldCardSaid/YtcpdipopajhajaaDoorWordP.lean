/- A text cut at a byte: plain laws. No program in sight, no condition. -/
import Derived.Test.YtcpdipopajhajaaDoorNumT
import Derived.Lib.SplitLaws
namespace Go.Proofs.YtcpdipopajhajaaDoor
open Go.ChangeShapes Go.WideShapes Go.ChangeAt Go.RowKit
set_option linter.unusedVariables false
/-- The first piece grows by p in front. -/
def hdP (p : List UInt8) : List (List UInt8) → List (List UInt8)
  | [] => [p]
  | h :: t => (p ++ h) :: t
/-- The pieces between the bytes c. -/
def cutL (c : UInt8) : List UInt8 → List (List UInt8)
  | [] => [[]]
  | x :: r => if x = c then [] :: cutL c r else hdP [x] (cutL c r)
theorem cutL_nil (c : UInt8) : cutL c [] = [[]] := rfl
theorem cutL_hit (c : UInt8) (r : List UInt8) : cutL c (c :: r) = [] :: cutL c r := by rw [cutL, if_pos rfl]
theorem cutL_miss {c x : UInt8} (h : ¬ x = c) (r : List UInt8) : cutL c (x :: r) = hdP [x] (cutL c r) := by rw [cutL, if_neg h]
theorem cutL_ne (c : UInt8) : ∀ l, cutL c l ≠ []
  | [] => by simp [cutL]
  | x :: r => by
    by_cases h : x = c
    · subst h; rw [cutL_hit]; simp
    · rw [cutL_miss h]; cases cutL c r <;> simp [hdP]
theorem hdP_hdP (p q : List UInt8) (l : List (List UInt8)) (h : l ≠ []) : hdP p (hdP q l) = hdP (p ++ q) l := by
  cases l with
  | nil => exact absurd rfl h
  | cons a b => simp [hdP]
theorem hdP_nil (l : List (List UInt8)) (h : l ≠ []) : hdP [] l = l := by
  cases l with
  | nil => exact absurd rfl h
  | cons a b => rfl
theorem cutL_len (c : UInt8) : ∀ l, (cutL c l).length ≤ l.length + 1
  | [] => Nat.le_refl _
  | x :: r => by
    have ih := cutL_len c r
    by_cases h : x = c
    · subst h; rw [cutL_hit]; simp; exact ih
    · rw [cutL_miss h]
      cases e : cutL c r with
      | nil => exact absurd e (cutL_ne c r)
      | cons a b => rw [e] at ih; simp [hdP] at ih ⊢; omega
theorem splitK_cut (c : UInt8) : ∀ l : List UInt8, Lib.splitK [c] 0 (l.count c) l = cutL c l
  | [] => rfl
  | x :: r => by
    have ih := splitK_cut c r
    by_cases h : x = c
    · subst h
      have hi : Lib.index (x :: r) [x] = ((0 : Nat) : Int) := by rw [Lib.index]; simp [List.isPrefixOf]
      rw [cutL_hit, List.count_cons_self, Lib.splitK, hi]
      simp [ih]
    · rw [cutL_miss h, List.count_cons_of_ne (by simpa using h)]
      have hp : ([c] : List UInt8).isPrefixOf (x :: r) = false := by simp [List.isPrefixOf, Ne.symm h]
      have hix : Lib.index (x :: r) [c] = if Lib.index r [c] == -1 then -1 else Lib.index r [c] + 1 := by rw [Lib.index, hp]; simp
      cases hk : r.count c with
      | zero =>
        rw [hk] at ih
        rw [← ih]
        rfl
      | succ k =>
        rw [hk] at ih
        rw [← ih, Lib.splitK, Lib.splitK, hix]
        have hge := Lib.index_ge r [c]
        by_cases hm : Lib.index r [c] = -1
        · rw [hm]
          simp [hdP]
        · obtain ⟨j, hj⟩ : ∃ j : Nat, Lib.index r [c] = j := ⟨(Lib.index r [c]).toNat, by omega⟩
          have e1 : ((j : Int) == -1) = false := by rw [beq_eq_false_iff_ne]; omega
          have e2 : ((j : Int) + 1 == -1) = false := by rw [beq_eq_false_iff_ne]; omega
          have e3 : ((j : Int) + 1).toNat = j + 1 := by omega
          rw [hj, e1]
          simp only [Bool.false_eq_true, if_false, e2, e3, Int.toNat_natCast, Nat.add_zero, List.take_succ_cons, List.length_singleton, hdP, List.singleton_append]
          rfl
/-- The pieces as strings. -/
def asS (l : List UInt8) : ByteArray := ⟨l.toArray⟩
theorem asS_data (s : ByteArray) : asS s.data.toList = s := eq_of_list rfl
def pieces (s : ByteArray) (c : UInt8) : List ByteArray := (cutL c s.data.toList).map asS
theorem splitB_pieces (s : ByteArray) (c : UInt8) : Lib.splitB ⟨#[c]⟩ 0 (Lib.countB s ⟨#[c]⟩) s = pieces s c := by
  have h := Lib.splitB_data ⟨#[c]⟩ 0 (Lib.countB s ⟨#[c]⟩) s
  have hc : Lib.countB s ⟨#[c]⟩ = s.data.toList.count c := Lib.count_one c s.data.toList
  rw [show (⟨#[c]⟩ : ByteArray).data.toList = [c] from rfl] at h
  unfold pieces
  rw [← splitK_cut, ← hc, ← h, List.map_map]
  rw [show (asS ∘ fun x : ByteArray => x.data.toList) = id from funext asS_data, List.map_id]
theorem pieces_len (s : ByteArray) (c : UInt8) : (pieces s c).length ≤ s.size + 1 := by
  have := cutL_len c s.data.toList
  rw [lst_len] at this
  simpa [pieces] using this
/-! ### the reference's walk over the bytes -/
/-- Behind i bytes: out holds the pieces that are closed, the open piece begins at f. -/
def CutAt (s : ByteArray) (c : UInt8) (out : List ByteArray) (f i : Nat) : Prop :=
  f ≤ i ∧ i ≤ s.size ∧ out ++ (hdP (seg s f i) (cutL c (s.data.toList.drop i))).map asS = pieces s c
theorem cut_start (s : ByteArray) (c : UInt8) : CutAt s c [] 0 0 := by
  refine ⟨Nat.le_refl _, Nat.zero_le _, ?_⟩
  rw [seg_0, hdP_nil _ (cutL_ne c _)]
  rfl
theorem drop_one (s : ByteArray) (i : Nat) (h : i < s.size) : s.data.toList.drop i = s[i] :: s.data.toList.drop (i + 1) := by
  rw [List.drop_eq_getElem_cons (by rw [lst_len]; exact h)]
  rfl
theorem seg_ext (s : ByteArray) (f i : Nat) : (s.extract f i) = asS (seg s f i) := by
  apply eq_of_list
  rw [Lib.extract_data]
  unfold seg asS
  rw [List.drop_take]
theorem cut_hit {s : ByteArray} {c : UInt8} {out : List ByteArray} {f i : Nat} (h : CutAt s c out f i) (hi : i < s.size) (hc : s[i] = c) : CutAt s c (out ++ [s.extract f i]) (i + 1) (i + 1) := by
  obtain ⟨h1, h2, h3⟩ := h
  refine ⟨Nat.le_refl _, hi, ?_⟩
  rw [drop_one s i hi, hc, cutL_hit] at h3
  rw [seg_0, hdP_nil _ (cutL_ne c _), seg_ext, ← h3]
  simp [hdP]
theorem cut_miss {s : ByteArray} {c : UInt8} {out : List ByteArray} {f i : Nat} (h : CutAt s c out f i) (hi : i < s.size) (hc : ¬ s[i] = c) : CutAt s c out f (i + 1) := by
  obtain ⟨h1, h2, h3⟩ := h
  refine ⟨by omega, hi, ?_⟩
  rw [drop_one s i hi, cutL_miss hc, hdP_hdP _ _ _ (cutL_ne c _)] at h3
  rw [seg_s s f i h1 hi]
  exact h3
theorem cut_end {s : ByteArray} {c : UInt8} {out : List ByteArray} {f : Nat} (h : CutAt s c out f s.size) : out ++ [s.extract f s.size] = pieces s c := by
  obtain ⟨h1, h2, h3⟩ := h
  rw [List.drop_of_length_le (by rw [lst_len]; exact Nat.le_refl _), cutL_nil] at h3
  rw [seg_ext, ← h3]
  simp [hdP]
theorem cut_len {s : ByteArray} {c : UInt8} {out : List ByteArray} {f i : Nat} (h : CutAt s c out f i) : out.length ≤ s.size + 1 := by
  have := congrArg List.length h.2.2
  rw [List.length_append] at this
  have := pieces_len s c
  omega
/-! ### what is not empty -/
def keepT (l : List ByteArray) : List ByteArray := l.filter fun x => decide (¬ x = ⟨#[]⟩)
theorem keepT_snoc_t {l : List ByteArray} {k : Nat} (hk : k < l.length) (h : ¬ l[k] = ⟨#[]⟩) : keepT (l.take (k + 1)) = keepT (l.take k) ++ [l[k]] := by
  rw [List.take_succ_eq_append_getElem hk]
  unfold keepT
  rw [List.filter_append]
  simp [h]
theorem keepT_snoc_f {l : List ByteArray} {k : Nat} (hk : k < l.length) (h : l[k] = ⟨#[]⟩) : keepT (l.take (k + 1)) = keepT (l.take k) := by
  rw [List.take_succ_eq_append_getElem hk]
  unfold keepT
  rw [List.filter_append]
  simp [h]
theorem keepT_len (l : List ByteArray) : (keepT l).length ≤ l.length := List.length_filter_le _ _
end Go.Proofs.YtcpdipopajhajaaDoor
