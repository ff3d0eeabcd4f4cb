/- The reference's l01Dec: the decimal numeral (Lib.itoa) of every int64. No condition. -/
import Derived.Test.YtcpdipopajhajaaDoorOwn
import Derived.Lib.ItoaNum
import Derived.Lib.ItoaLen
namespace Go.Proofs.YtcpdipopajhajaaDoor
open Go.ChangeShapes Go.WideShapes Go.ChangeAt Go.RowKit
set_option linter.unusedVariables false
/-! ### plain laws: the digits from the last to the first -/
/-- What is left and what is collected make the numeral. -/
def DecInv (u v : Nat) (ds : List UInt8) : Prop := (v = 0 ∧ ds ≠ [] ∧ Lib.decDigits u = ds.reverse) ∨ (0 < v ∧ Lib.decDigits u = Lib.decDigits v ++ ds.reverse)
theorem decInv_0 (u : Nat) (h : 0 < u) : DecInv u u [] := .inr ⟨h, by simp⟩
theorem decInv_s {u v : Nat} {ds : List UInt8} (h : DecInv u v ds) (hv : 0 < v) : DecInv u (v / 10) (ds ++ [UInt8.ofNat (48 + v % 10)]) := by
  rcases h with ⟨h0, _⟩ | ⟨_, h⟩
  · omega
  · by_cases h10 : v < 10
    · left
      refine ⟨by omega, by simp, ?_⟩
      rw [h, Lib.decDigits_one h10, show v % 10 = v from by omega]
      simp
    · right
      refine ⟨by omega, ?_⟩
      rw [h]
      conv => lhs; rw [Lib.decDigits, dif_neg h10]
      simp
theorem decInv_e {u : Nat} {ds : List UInt8} (h : DecInv u 0 ds) : ds ≠ [] ∧ Lib.decDigits u = ds.reverse := by
  rcases h with ⟨_, h⟩ | ⟨h0, _⟩
  · exact h
  · omega
theorem digit_byte (d : Nat) (h : d < 10) : ((UInt8.ofNat (48 + d)).toNat : Int) = 48 + (d : Int) := by
  have : (UInt8.ofNat (48 + d)).toNat = 48 + d := by
    rw [UInt8.toNat_ofNat']; omega
  omega
theorem rev_snoc (l : List UInt8) (k : Nat) (h : k < l.length) : (l.drop (k + 1)).reverse ++ [l[k]] = (l.drop k).reverse := by
  rw [List.drop_eq_getElem_cons h, List.reverse_cons]
theorem decInv_len {u v : Nat} {ds : List UInt8} (h : DecInv u v ds) (hu : u < 18446744073709551616) : ds.length ≤ 20 := by
  have hl : (Lib.decDigits u).length ≤ 20 := by rw [Lib.decDigits_length]; exact Lib.nDigits_le20 u hu
  rcases h with ⟨_, _, h⟩ | ⟨_, h⟩
  · rw [h] at hl; simpa using hl
  · rw [h] at hl; simp at hl; omega
theorem itoa_pos' (u : Nat) : Lib.itoa (u : Int) = Lib.decDigits u := by unfold Lib.itoa; rw [if_neg (by omega), Int.toNat_natCast]
theorem itoa_neg' (u : Nat) (h : 0 < u) : Lib.itoa (-(u : Int)) = 45 :: Lib.decDigits u := by unfold Lib.itoa; rw [if_pos (by omega), Int.natAbs_neg, Int.natAbs_natCast]
/-! ### the walk -/
theorem tdiv10 (v : Nat) : (-(v : Int)).tdiv 10 = -((v : Int) / 10) := by rw [Int.neg_tdiv, Int.tdiv_eq_ediv_of_nonneg (by omega)]
theorem tmod10 (v : Nat) : (-(v : Int)).tmod 10 = -((v : Int) % 10) := by rw [Int.neg_tmod, Int.tmod_eq_emod_of_nonneg (by omega)]
set_option maxHeartbeats 2000000 in
theorem l01Dec_any (n : Int) (w : World) (h0 : -9223372036854775808 ≤ n) (h1 : n ≤ 9223372036854775807) : Calls Tryd.prog 59 #[.int .i64 n] w fun e w' => e = .returned (.string ⟨(Lib.itoa n).toArray⟩) ∧ Below w.heap.size w w' := by
  by_cases hz : n = 0
  · subst hz
    have F : Hid (Lib.itoa 0 = [48]) := by show _ = _; unfold Lib.itoa; rw [if_neg (by omega), show (0 : Int).toNat = 0 from rfl, Lib.decDigits_one (by omega)]; rfl
    go_enter Tryd.func59, Tryd.ntmps59
    go_wp2
    go_ret
    exact ⟨ret_str (by rw [F.out]), Below.refl _ _⟩
  have hz' : (n == 0) = false := beq_eq_false_iff_ne.2 hz
  by_cases hn : n < 0
  · obtain ⟨u, rfl⟩ : ∃ u : Nat, n = -(u : Int) := ⟨n.natAbs, by omega⟩
    have hu : 0 < u := by omega
    have hsg : decide ((0 : Int) < u) = true := decide_eq_true (by omega)
    clear hz hn
    go_enter Tryd.func59, Tryd.ntmps59
    go_wp2_with fail
    go_loopw [3, 4, 5] (fun a b c wr => ∃ (v : Nat) (A : Option Addr) (cp : Nat) (ds : List UInt8), v ≤ u ∧ a = .slice A ds.length cp ∧ b = .int .i64 (-(v : Int)) ∧ OwnB wr w.heap.size (.slice A ds.length cp) ds ∧ DecInv u v ds ∧ Below w.heap.size w wr) (fun _ b _ _ => (intOf b).natAbs)
    case atStart => exact ⟨u, _, _, [], Nat.le_refl _, rfl, rfl, OwnB.empty _ _ (Nat.le_refl _), decInv_0 u hu, bl_alloc (Below.refl _ _) _⟩
    case round =>
      obtain ⟨v, A, cp, ds, hv, rfl, rfl, hown, hinv, hb⟩ := hrel
      have hlen := decInv_len hinv (by omega)
      have HI := Lib.hid hinv
      clear hinv
      by_cases h : v = 0
      · subst h
        obtain ⟨hne, hds⟩ := decInv_e HI.out
        clear HI
        have HDS := Lib.hid hds
        clear hds
        have hl0 : 0 < ds.length := by
          cases ds with
          | nil => exact absurd rfl hne
          | cons _ _ => simp
        clear hne
        have HT : Hid (Lib.itoa (-(u : Int)) = (ds ++ [45]).reverse) := by show _ = _; rw [itoa_neg' u hu, HDS.out]; simp
        clear HDS
        simp only [show -(((0 : Nat) : Int)) = 0 from rfl]
        go_wp2_with (at_builtin; refine wpList_app_byte _ rfl (.tmp 30) (.tmp 31) rfl w.heap.size _ ds rfl (hown.alloc _) wr.heap.size 45 _ rfl (cell_new1 _ _ _) rfl (by omega) (base_new hb) ?_; intro v' w1 hown1 hg1; obtain ⟨A1, c1, rfl⟩ := hown1.form; have hb1 : Below w.heap.size w w1 := Below.grown (bl_alloc hb _) hg1 (base_new hb) hown.ge; clear hown hg1 hl0; have hlen2 : (ds ++ [45]).length ≤ 100 := (by simp; omega); have hl0 : 0 < (ds ++ [45]).length := (by simp); clear hlen; generalize ds ++ [45] = dd at *)
        obtain ⟨g, rfl, hg, hgb, hk⟩ := hown1.at_ hl0
        go_wp2_with fail
        have hk2 : ∀ k (h : k < dd.length), (w1.alloc (.cells #[] 5)).cell? ⟨g, k, none⟩ = some (.int .u8 (dd[k].toNat : Int)) := fun k h => by
          rw [World.cell?_alloc_lt _ _ _ hg]; exact hk k h
        have hbW := bl_alloc hb1 (.cells #[] 5)
        have HE := OwnB.empty w1 w1.heap.size (Nat.le_refl _)
        have hgW : g < (w1.alloc (.cells #[] 5)).heap.size := by simp; omega
        obtain ⟨B2, hB2⟩ : ∃ B2, B2 = w1.heap.size := ⟨_, rfl⟩
        have hB2W : B2 ≤ (w1.alloc (.cells #[] 5)).heap.size := by rw [hB2]; simp
        simp only [← hB2] at HE hg ⊢
        clear hown1 hk
        generalize w1.alloc (.cells #[] 5) = W2 at *
        have hwB : w.heap.size ≤ B2 := by rw [hB2]; exact hb1.size
        clear hB2
        go_loopw [6, 7] (fun a b wr => ∃ (j : Nat) (A : Option Addr) (cp : Nat), j ≤ dd.length ∧ b = .int .i64 ((j : Int) - 1) ∧ a = .slice A (dd.drop j).reverse.length cp ∧ OwnB wr B2 (.slice A (dd.drop j).reverse.length cp) (dd.drop j).reverse ∧ Below B2 W2 wr ∧ B2 ≤ wr.heap.size) (fun _ b _ => (intOf b + 1).toNat)
        case atStart => exact ⟨dd.length, some ⟨B2, 0, none⟩, 0, Nat.le_refl _, rfl, by simp, by simpa using HE, Below.refl _ _, hB2W⟩
        case round =>
          obtain ⟨j, A, cp, hj, rfl, rfl, hown, hbl, hsz⟩ := hrel
          cases j with
          | zero =>
            obtain ⟨rr, hrr⟩ : ∃ rr, rr = (dd.drop 0).reverse := ⟨_, rfl⟩
            have hlr : 0 < rr.length := by rw [hrr]; simpa using hl0
            have hlm : rr.length ≤ 1000 := by rw [hrr]; simp; omega
            rw [← hrr] at hown ⊢
            have HR := Lib.hid hrr
            clear hrr
            have hst := run_str_own hown hlr
            go_wp2_with fail
            go_ret
            exact ⟨ret_str (by rw [HT.out, HR.out, List.drop_zero]), hbW.trans (hbl.mono hwB)⟩
          | succ t =>
            have hc : wr.cell? ⟨g, t, none⟩ = some (.int .u8 (dd[t].toNat : Int)) := (hbl.cell (p := ⟨g, t, none⟩) hg).trans (hk2 t (by omega))
            rw [show (((t + 1 : Nat) : Int) - 1) = (t : Int) from by omega]
            have HR := Lib.hid (rev_snoc dd t (by omega))
            have hll : (dd.drop (t + 1)).reverse.length ≤ 1000 := by simp; omega
            generalize hrr : (dd.drop (t + 1)).reverse = rr at *
            clear hrr
            go_wp2_with (at_builtin; refine wpList_app_byte _ rfl (.tmp 41) (.tmp 46) rfl B2 _ rr rfl (hown.alloc _) wr.heap.size dd[t] _ rfl (cell_new1 _ _ _) rfl (by omega) (by simp; omega) ?_; intro v' w1 hown1 hg1)
            go_roundw
            case rel =>
              rw [HR.out] at hown1
              obtain ⟨A1, c1, rfl⟩ := hown1.form
              exact ⟨t, A1, c1, by omega, rfl, rfl, hown1, Below.grown (hbl.alloc hsz _) hg1 (by simp; omega) hown.ge, Nat.le_trans (by simp; omega) hg1.size⟩
            case measure => first | (simp [intOf]; omega) | simp [intOf]
      · have hpos : 0 < v := by omega
        have HD := Lib.hid (digit_byte (v % 10) (by omega))
        have H1 := Lib.hid (decInv_s HI.out hpos)
        clear HI
        have hne : (-(v : Int) != 0) = true := by rw [bne_iff_ne]; omega
        have e1 := tdiv10 v
        have e2 := tmod10 v
        go_wp2_with (at_builtin; refine wpList_app_byte _ rfl (.tmp 22) (.tmp 26) rfl w.heap.size _ ds rfl (hown.alloc _) wr.heap.size (UInt8.ofNat (48 + v % 10)) _ rfl (cell_new1 _ _ _) (by have := HD.out; omega) (by omega) (base_new hb) ?_; intro v' w1 hown1 hg1)
        all_goals
          go_roundw
          case rel =>
            obtain ⟨A1, c1, rfl⟩ := hown1.form
            exact ⟨v / 10, A1, c1, _, by omega, rfl, by go_num, hown1, H1.out, Below.grown (bl_alloc hb _) hg1 (base_new hb) hown.ge⟩
          case measure => first | (simp [intOf]; omega) | simp [intOf]
  · obtain ⟨u, rfl⟩ := Int.eq_ofNat_of_zero_le (by omega : 0 ≤ n)
    have hu : 0 < u := by omega
    have hsg : decide ((u : Int) < 0) = false := decide_eq_false (by omega)
    clear hz hn
    go_enter Tryd.func59, Tryd.ntmps59
    go_wp2_with fail
    go_loopw [3, 4, 5] (fun a b c wr => ∃ (v : Nat) (A : Option Addr) (cp : Nat) (ds : List UInt8), v ≤ u ∧ a = .slice A ds.length cp ∧ b = .int .i64 (v : Int) ∧ OwnB wr w.heap.size (.slice A ds.length cp) ds ∧ DecInv u v ds ∧ Below w.heap.size w wr) (fun _ b _ _ => (intOf b).natAbs)
    case atStart => exact ⟨u, _, _, [], Nat.le_refl _, rfl, rfl, OwnB.empty _ _ (Nat.le_refl _), decInv_0 u hu, bl_alloc (Below.refl _ _) _⟩
    case round =>
      obtain ⟨v, A, cp, ds, hv, rfl, rfl, hown, hinv, hb⟩ := hrel
      have hlen := decInv_len hinv (by omega)
      have HI := Lib.hid hinv
      clear hinv
      by_cases h : v = 0
      · subst h
        obtain ⟨hne, hds⟩ := decInv_e HI.out
        clear HI
        have HDS := Lib.hid hds
        clear hds
        have hl0 : 0 < ds.length := by
          cases ds with
          | nil => exact absurd rfl hne
          | cons _ _ => simp
        clear hne
        have HT : Hid (Lib.itoa (u : Int) = ds.reverse) := (itoa_pos' u).trans HDS.out
        clear HDS
        simp only [show (((0 : Nat) : Int)) = 0 from rfl]
        go_wp2_with fail
        obtain ⟨g, rfl, hg, hgb, hk⟩ := hown.at_ hl0
        go_wp2_with fail
        have hk2 : ∀ k (h : k < ds.length), (wr.alloc (.cells #[] 5)).cell? ⟨g, k, none⟩ = some (.int .u8 (ds[k].toNat : Int)) := fun k h => by
          rw [World.cell?_alloc_lt _ _ _ hg]; exact hk k h
        have hbW := bl_alloc hb (.cells #[] 5)
        have HE := OwnB.empty wr wr.heap.size (Nat.le_refl _)
        have hgW : g < (wr.alloc (.cells #[] 5)).heap.size := by simp; omega
        obtain ⟨B2, hB2⟩ : ∃ B2, B2 = wr.heap.size := ⟨_, rfl⟩
        have hB2W : B2 ≤ (wr.alloc (.cells #[] 5)).heap.size := by rw [hB2]; simp
        simp only [← hB2] at HE hg ⊢
        clear hown hk
        generalize wr.alloc (.cells #[] 5) = W2 at *
        have hwB : w.heap.size ≤ B2 := by rw [hB2]; exact hb.size
        clear hB2
        go_loopw [6, 7] (fun a b wr => ∃ (j : Nat) (A : Option Addr) (cp : Nat), j ≤ ds.length ∧ b = .int .i64 ((j : Int) - 1) ∧ a = .slice A (ds.drop j).reverse.length cp ∧ OwnB wr B2 (.slice A (ds.drop j).reverse.length cp) (ds.drop j).reverse ∧ Below B2 W2 wr ∧ B2 ≤ wr.heap.size) (fun _ b _ => (intOf b + 1).toNat)
        case atStart => exact ⟨ds.length, some ⟨B2, 0, none⟩, 0, Nat.le_refl _, rfl, by simp, by simpa using HE, Below.refl _ _, hB2W⟩
        case round =>
          obtain ⟨j, A, cp, hj, rfl, rfl, hown, hbl, hsz⟩ := hrel
          cases j with
          | zero =>
            obtain ⟨rr, hrr⟩ : ∃ rr, rr = (ds.drop 0).reverse := ⟨_, rfl⟩
            have hlr : 0 < rr.length := by rw [hrr]; simpa using hl0
            have hlm : rr.length ≤ 1000 := by rw [hrr]; simp; omega
            rw [← hrr] at hown ⊢
            have HR := Lib.hid hrr
            clear hrr
            have hst := run_str_own hown hlr
            go_wp2_with fail
            go_ret
            exact ⟨ret_str (by rw [HT.out, HR.out, List.drop_zero]), hbW.trans (hbl.mono hwB)⟩
          | succ t =>
            have hc : wr.cell? ⟨g, t, none⟩ = some (.int .u8 (ds[t].toNat : Int)) := (hbl.cell (p := ⟨g, t, none⟩) hg).trans (hk2 t (by omega))
            rw [show (((t + 1 : Nat) : Int) - 1) = (t : Int) from by omega]
            have HR := Lib.hid (rev_snoc ds t (by omega))
            have hll : (ds.drop (t + 1)).reverse.length ≤ 1000 := by simp; omega
            generalize hrr : (ds.drop (t + 1)).reverse = rr at *
            clear hrr
            go_wp2_with (at_builtin; refine wpList_app_byte _ rfl (.tmp 41) (.tmp 46) rfl B2 _ rr rfl (hown.alloc _) wr.heap.size ds[t] _ rfl (cell_new1 _ _ _) rfl (by omega) (by simp; omega) ?_; intro v' w1 hown1 hg1)
            go_roundw
            case rel =>
              rw [HR.out] at hown1
              obtain ⟨A1, c1, rfl⟩ := hown1.form
              exact ⟨t, A1, c1, by omega, rfl, rfl, hown1, Below.grown (hbl.alloc hsz _) hg1 (by simp; omega) hown.ge, Nat.le_trans (by simp; omega) hg1.size⟩
            case measure => first | (simp [intOf]; omega) | simp [intOf]
      · have hpos : 0 < v := by omega
        have HD := Lib.hid (digit_byte (v % 10) (by omega))
        have H1 := Lib.hid (decInv_s HI.out hpos)
        clear HI
        have hne : ((v : Int) != 0) = true := by rw [bne_iff_ne]; omega
        go_wp2_with (at_builtin; refine wpList_app_byte _ rfl (.tmp 22) (.tmp 26) rfl w.heap.size _ ds rfl (hown.alloc _) wr.heap.size (UInt8.ofNat (48 + v % 10)) _ rfl (cell_new1 _ _ _) (by have := HD.out; omega) (by omega) (base_new hb) ?_; intro v' w1 hown1 hg1)
        go_roundw
        case rel =>
          obtain ⟨A1, c1, rfl⟩ := hown1.form
          exact ⟨v / 10, A1, c1, _, by omega, rfl, by go_num, hown1, H1.out, Below.grown (bl_alloc hb _) hg1 (base_new hb) hown.ge⟩
        case measure => first | (simp [intOf]; omega) | simp [intOf]
end Go.Proofs.YtcpdipopajhajaaDoor
