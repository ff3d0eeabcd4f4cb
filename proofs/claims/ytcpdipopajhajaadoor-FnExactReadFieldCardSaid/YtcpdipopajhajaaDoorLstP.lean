/- A list of numbers as text: plain laws. No program in sight, no condition. -/
import Derived.Test.YtcpdipopajhajaaDoorPad
import Derived.Lib.Join
namespace Go.Proofs.YtcpdipopajhajaaDoor
open Go.ChangeShapes Go.WideShapes Go.ChangeAt Go.RowKit
set_option linter.unusedVariables false
theorem joinTail_snoc (sep : List UInt8) (r : List (List UInt8)) (x : List UInt8) : Lib.joinTail sep (r ++ [x]) = Lib.joinTail sep r ++ (sep ++ x) := by
  unfold Lib.joinTail
  simp
theorem join_snoc {xs : List (List UInt8)} (h : xs ≠ []) (x sep : List UInt8) : Lib.join (xs ++ [x]) sep = Lib.join xs sep ++ sep ++ x := by
  cases xs with
  | nil => exact absurd rfl h
  | cons y r => rw [List.cons_append, Lib.join_cons, Lib.join_cons, joinTail_snoc]; simp
/-- The first k numbers, joined by commas. -/
def joinL (ns : List Int) (k : Nat) : List UInt8 := Lib.join ((ns.take k).map Lib.itoa) [44]
def joinS (ns : List Int) (k : Nat) : ByteArray := ⟨(joinL ns k).toArray⟩
theorem joinS_0 (ns : List Int) : joinS ns 0 = ⟨#[]⟩ := by unfold joinS joinL; simp [Lib.join_nil]
theorem joinL_1 {ns : List Int} (h : 0 < ns.length) : joinL ns 1 = Lib.itoa ns[0] := by
  unfold joinL
  rw [List.take_succ_eq_append_getElem h, List.take_zero, List.nil_append, List.map_cons, List.map_nil, Lib.join_one]
theorem joinL_s {ns : List Int} {k : Nat} (h0 : 0 < k) (hk : k < ns.length) : joinL ns (k + 1) = joinL ns k ++ [44] ++ Lib.itoa ns[k] := by
  unfold joinL
  rw [List.take_succ_eq_append_getElem hk, List.map_append, List.map_cons, List.map_nil]
  refine join_snoc ?_ _ _
  intro h
  have := congrArg List.length h
  rw [List.length_map, List.length_take, List.length_nil] at this
  omega
theorem joinS_1 {ns : List Int} (h : 0 < ns.length) : joinS ns 1 = decS ns[0] := by unfold joinS decS; rw [joinL_1 h]
theorem joinS_s {ns : List Int} {k : Nat} (h0 : 0 < k) (hk : k < ns.length) : joinS ns (k + 1) = joinS ns k ++ ⟨#[44]⟩ ++ decS ns[k] := by
  unfold joinS decS
  rw [joinL_s h0 hk, show (#[44] : Array UInt8) = [44].toArray from rfl, cat_bytes, cat_bytes]
def okV (n : Int) : Bool := inB n (-1000000000000) 1000000000000
def fitsL (ns : List Int) : Bool := ns.all okV && decide (ns.length ≤ 64)
theorem okV_bd {n : Int} (h : okV n = true) : -1000000000000 ≤ n ∧ n ≤ 1000000000000 := inB_yes h
theorem okV_size {n : Int} (h : okV n = true) : (decS n).size ≤ 21 := by
  obtain ⟨a, b⟩ := okV_bd h
  exact decS_size n (by omega) (by omega)
theorem joinS_size (ns : List Int) (h : ns.all okV = true) : ∀ k, k ≤ ns.length → (joinS ns k).size ≤ 22 * k
  | 0, _ => by rw [joinS_0]; decide
  | k + 1, hk => by
    have ih := joinS_size ns h k (by omega)
    have hz := okV_size (List.all_eq_true.1 h _ (List.getElem_mem (show k < ns.length by omega)))
    by_cases h0 : k = 0
    · subst h0
      rw [joinS_1 (by omega)]
      omega
    · rw [joinS_s (by omega) (by omega), ByteArray.size_append, ByteArray.size_append, show (⟨#[44]⟩ : ByteArray).size = 1 from rfl]
      omega
/-- A list as text. -/
def listS (ns : List Int) : ByteArray := if ns = [] then ⟨#[45]⟩ else joinS ns ns.length
theorem listS_nil : listS [] = ⟨#[45]⟩ := rfl
theorem listS_ne {ns : List Int} (h : 0 < ns.length) : listS ns = joinS ns ns.length := by
  unfold listS
  rw [if_neg (by intro e; rw [e] at h; simp at h)]
def listT (ns : List Int) : ByteArray := if fitsL ns then listS ns else ⟨#[]⟩
theorem listT_t {ns : List Int} (h : fitsL ns = true) : listT ns = listS ns := by unfold listT; rw [if_pos h]
theorem listT_f {ns : List Int} (h : fitsL ns = false) : listT ns = ⟨#[]⟩ := by unfold listT; rw [h]; rfl
theorem fits_yes {ns : List Int} (h : fitsL ns = true) : ns.all okV = true ∧ ns.length ≤ 64 := by
  unfold fitsL at h
  rw [Bool.and_eq_true, decide_eq_true_eq] at h
  exact h
theorem fits_t {ns : List Int} (h : ns.all okV = true) (k : ns.length ≤ 64) : fitsL ns = true := by unfold fitsL; rw [h, decide_eq_true k]; rfl
theorem fits_bad {ns : List Int} (k : Nat) (h : k < ns.length) (hk : okV ns[k] = false) : fitsL ns = false := by
  unfold fitsL
  cases e : ns.all okV
  · rfl
  · have := List.all_eq_true.1 e _ (List.getElem_mem h)
    rw [hk] at this
    cases this
theorem fits_long {ns : List Int} (h : 64 < ns.length) : fitsL ns = false := by unfold fitsL; rw [decide_eq_false (by omega)]; simp
theorem allV_snoc (ns : List Int) (k : Nat) (h : k < ns.length) (ha : (ns.take k).all okV = true) (hk : okV ns[k] = true) : (ns.take (k + 1)).all okV = true := by
  rw [List.take_succ_eq_append_getElem h, List.all_append, ha]
  simp [hk]
theorem allV_take (ns : List Int) (h : (ns.take ns.length).all okV = true) : ns.all okV = true := by rwa [List.take_length] at h
/-- The strings that the program joins. -/
def decsS (ns : List Int) (k : Nat) : List ByteArray := (ns.take k).map decS
theorem decsS_len {ns : List Int} {k : Nat} (hk : k ≤ ns.length) : (decsS ns k).length = k := by unfold decsS; rw [List.length_map, List.length_take]; omega
theorem decsS_s {ns : List Int} {k : Nat} (hk : k < ns.length) : decsS ns (k + 1) = decsS ns k ++ [decS ns[k]] := by
  unfold decsS
  rw [List.take_succ_eq_append_getElem hk, List.map_append]
  rfl
theorem decsS_join (ns : List Int) (k : Nat) : Lib.join ((decsS ns k).map (·.data.toList)) [44] = joinL ns k := by
  unfold decsS joinL
  rw [List.map_map]
  rfl
theorem joinL_size (ns : List Int) (h : ns.all okV = true) (k : Nat) (hk : k ≤ ns.length) : (joinL ns k).length ≤ 22 * k := by
  have := joinS_size ns h k hk
  simpa [joinS, ByteArray.size] using this
end Go.Proofs.YtcpdipopajhajaaDoor
