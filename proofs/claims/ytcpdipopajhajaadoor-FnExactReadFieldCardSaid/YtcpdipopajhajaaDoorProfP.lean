/- A profile as text: plain laws. No program in sight, no condition. -/
import Derived.Test.YtcpdipopajhajaaDoorLstP
import Derived.Test.YtcpdipopajhajaaDoorSum
namespace Go.Proofs.YtcpdipopajhajaaDoor
open Go.ChangeShapes Go.WideShapes Go.ChangeAt Go.RowKit
set_option linter.unusedVariables false
def layL (x : Ly) : List Int := [x.form, x.ice, x.water, x.dens, x.deg, x.hard, x.age]
theorem layL_fits {x : Ly} (h : LyB x) : fitsL (layL x) = true := by
  obtain ⟨f0, f1, i0, i1, w0, w1, d0, d1, g0, g1, k0, k1, a0, a1⟩ := h
  have e : ∀ n : Int, -1000000000000 ≤ n → n ≤ 1000000000000 → okV n = true := fun n p q => by unfold okV inB; simp [p, q]
  unfold fitsL layL
  simp only [List.all_cons, List.all_nil, List.length_cons, List.length_nil]
  rw [e _ (by omega) (by omega), e _ (by omega) (by omega), e _ (by omega) (by omega), e _ (by omega) (by omega), e _ (by omega) (by omega), e _ (by omega) (by omega), e _ (by omega) (by omega)]
  rfl
/-- A layer as text. -/
def layS (x : Ly) : ByteArray := listS (layL x)
theorem layS_t {x : Ly} (h : LyB x) : listT (layL x) = layS x := listT_t (layL_fits h)
theorem layS_size {x : Ly} (h : LyB x) : (layS x).size ≤ 154 := by
  unfold layS
  rw [listS_ne (show 0 < (layL x).length by simp [layL])]
  exact joinS_size (layL x) (fits_yes (layL_fits h)).1 7 (Nat.le_refl _)
/-- The first k layers, joined. -/
def profL (ls : List Ly) (k : Nat) : List UInt8 := Lib.join ((ls.take k).map fun x => (layS x).data.toList) [59]
def profJ (ls : List Ly) (k : Nat) : ByteArray := ⟨(profL ls k).toArray⟩
theorem profJ_0 (ls : List Ly) : profJ ls 0 = ⟨#[]⟩ := by unfold profJ profL; simp [Lib.join_nil]
theorem asArr (s : ByteArray) : (⟨s.data.toList.toArray⟩ : ByteArray) = s := eq_of_list rfl
theorem profJ_1 {ls : List Ly} (h : 0 < ls.length) : profJ ls 1 = layS ls[0] := by
  unfold profJ profL
  rw [List.take_succ_eq_append_getElem h, List.take_zero, List.nil_append, List.map_cons, List.map_nil, Lib.join_one, asArr]
theorem profJ_s {ls : List Ly} {k : Nat} (h0 : 0 < k) (hk : k < ls.length) : profJ ls (k + 1) = profJ ls k ++ ⟨#[59]⟩ ++ layS ls[k] := by
  have e : profL ls (k + 1) = profL ls k ++ [59] ++ (layS ls[k]).data.toList := by
    unfold profL
    rw [List.take_succ_eq_append_getElem hk, List.map_append, List.map_cons, List.map_nil]
    refine join_snoc ?_ _ _
    intro h
    have := congrArg List.length h
    rw [List.length_map, List.length_take, List.length_nil] at this
    omega
  unfold profJ
  rw [e, show (#[59] : Array UInt8) = [59].toArray from rfl, ← cat_bytes, ← cat_bytes, asArr]
theorem profJ_size (ls : List Ly) (V : VL ls) : ∀ k, k ≤ ls.length → (profJ ls k).size ≤ 155 * k
  | 0, _ => by rw [profJ_0]; decide
  | k + 1, hk => by
    have ih := profJ_size ls V k (by omega)
    have hz := layS_size (V.get k (by omega))
    by_cases h0 : k = 0
    · subst h0
      rw [profJ_1 (by omega)]
      omega
    · rw [profJ_s (by omega) (by omega), ByteArray.size_append, ByteArray.size_append, show (⟨#[59]⟩ : ByteArray).size = 1 from rfl]
      omega
/-- A profile as text. -/
def profS (ls : List Ly) : ByteArray := if ls = [] then ⟨#[45]⟩ else profJ ls ls.length
theorem profS_ne {ls : List Ly} (h : 0 < ls.length) : profS ls = profJ ls ls.length := by
  unfold profS
  rw [if_neg (by intro e; rw [e] at h; simp at h)]
def profT (ls : List Ly) : ByteArray := if okL ls then profS ls else ⟨#[]⟩
theorem profT_t {ls : List Ly} (h : okL ls = true) : profT ls = profS ls := by unfold profT; rw [if_pos h]
theorem profT_f {ls : List Ly} (h : okL ls = false) : profT ls = ⟨#[]⟩ := by unfold profT; rw [h]; rfl
/-- The strings that the program joins. -/
def laysS (ls : List Ly) (k : Nat) : List ByteArray := (ls.take k).map layS
theorem laysS_len {ls : List Ly} {k : Nat} (hk : k ≤ ls.length) : (laysS ls k).length = k := by unfold laysS; rw [List.length_map, List.length_take]; omega
theorem laysS_s {ls : List Ly} {k : Nat} (hk : k < ls.length) : laysS ls (k + 1) = laysS ls k ++ [layS ls[k]] := by
  unfold laysS
  rw [List.take_succ_eq_append_getElem hk, List.map_append]
  rfl
theorem laysS_join (ls : List Ly) (k : Nat) : Lib.join ((laysS ls k).map (·.data.toList)) [59] = profL ls k := by
  unfold laysS profL
  rw [List.map_map]
  rfl
theorem profL_size (ls : List Ly) (V : VL ls) (k : Nat) (hk : k ≤ ls.length) : (profL ls k).length ≤ 155 * k := profJ_size ls V k hk
end Go.Proofs.YtcpdipopajhajaaDoor
