/- A field as text: plain laws, and the contracts of the program's and of the reference's FieldText (the program's in a world with the library's table). -/
import Derived.Test.YtcpdipopajhajaaDoorListT
import Derived.Test.YtcpdipopajhajaaDoorFldOk
import Derived.Deep.RegionHeld3
namespace Go.Proofs.YtcpdipopajhajaaDoor
open Go.ChangeShapes Go.WideShapes Go.ChangeAt Go.RowKit Go.Deep
set_option linter.unusedVariables false
def fldS (r s : Int) (ns : List Int) : ByteArray := decS r ++ ⟨#[120]⟩ ++ decS s ++ ⟨#[32]⟩ ++ listS ns
def fldT (r s : Int) (ns : List Int) : ByteArray := if okF r s ns then fldS r s ns else ⟨#[]⟩
theorem fldT_t {r s : Int} {ns : List Int} (h : okF r s ns = true) : fldT r s ns = fldS r s ns := by unfold fldT; rw [if_pos h]
theorem fldT_f {r s : Int} {ns : List Int} (h : okF r s ns = false) : fldT r s ns = ⟨#[]⟩ := by unfold fldT; rw [h]; rfl
theorem okF_fits {r s : Int} {ns : List Int} (h : okF r s ns = true) : fitsL ns = true := by
  obtain ⟨_, _, _, _, _, h64, hall⟩ := okF_yes h
  refine fits_t ?_ h64
  rw [List.all_eq_true]
  intro x hx
  obtain ⟨a, b⟩ := okM_bd (List.all_eq_true.1 hall x hx)
  unfold okV inB
  simp only [decide_eq_true_eq]
  omega
/-- The sums of the lengths on the way, in the forms in which a walk meets them. -/
theorem cat_no {a b n : Nat} (h : a + b ≤ n) (k : n ≤ 9223372036854775807) : ¬ 9223372036854775807 < a + b := by omega
theorem listS_size {ns : List Int} (h : fitsL ns = true) : (listS ns).size ≤ 1408 := by
  obtain ⟨hall, h64⟩ := fits_yes h
  by_cases h0 : ns.length = 0
  · rw [List.length_eq_zero_iff.1 h0, listS_nil]; decide
  · rw [listS_ne (by omega)]
    have := joinS_size ns hall ns.length (Nat.le_refl _)
    omega
set_option maxHeartbeats 2000000 in
theorem l06Text_any (p : Nat) (r s : Int) (A : Option Addr) (c : Nat) (ns : List Int) (w : World) (hB : FBx w p r s A ns.length c) (hr : RdI w A ns) (h : okF r s ns = true) :
    Calls Tryd.prog 39 #[.pointer (some ⟨p, 0, none⟩)] w fun e w' => e = .returned (.string (fldS r s ns)) ∧ Below w.heap.size w w' := by
  obtain ⟨b0, b1, b2, b3, _, _, _⟩ := okF_yes h
  have HF := Lib.hid (okF_fits h)
  have HR := Lib.hid hr
  have hpl := hB.lt
  have z1 := decS_size r (by omega) (by omega)
  have z2 := decS_size s (by omega) (by omega)
  have z3 := listS_size HF.out
  have z4 : (⟨#[120]⟩ : ByteArray).size ≤ 1 := by decide
  have z5 : (⟨#[32]⟩ : ByteArray).size ≤ 1 := by decide
  have k1 := fun W : World => run_string_add_sum (P := Tryd.prog) W (decS r) ⟨#[120]⟩ (by omega)
  have k2 := fun W : World => run_string_add_sum (P := Tryd.prog) W (decS r ++ ⟨#[120]⟩) (decS s) (by rw [ByteArray.size_append]; omega)
  have k3 := fun W : World => run_string_add_sum (P := Tryd.prog) W (decS r ++ ⟨#[120]⟩ ++ decS s) ⟨#[32]⟩ (by rw [ByteArray.size_append, ByteArray.size_append]; omega)
  have k4 := fun W : World => run_string_add_sum (P := Tryd.prog) W (decS r ++ ⟨#[120]⟩ ++ decS s ++ ⟨#[32]⟩) (listS ns) (by rw [ByteArray.size_append, ByteArray.size_append, ByteArray.size_append]; omega)
  have F : Hid (fldS r s ns = decS r ++ ⟨#[120]⟩ ++ decS s ++ ⟨#[32]⟩ ++ listS ns) := Lib.hid rfl
  have q0 : ∀ w' : World, Below w.heap.size w w' → w'.cell? ⟨p, 0, none⟩ = some (.int .i64 r) := fun w' k => (hB.below k).c0
  have q1 : ∀ w' : World, Below w.heap.size w w' → w'.cell? ⟨p, 1, none⟩ = some (.int .i64 s) := fun w' k => (hB.below k).c1
  have q2 : ∀ w' : World, Below w.heap.size w w' → w'.cell? ⟨p, 2, none⟩ = some (.slice A ns.length c) := fun w' k => (hB.below k).c2
  have HL : Hid (∀ W : World, Below w.heap.size w W → Calls Tryd.prog 60 #[.slice A ns.length c] W fun e w' => e = .returned (.string (listS ns)) ∧ Below W.heap.size W w') := Lib.hid fun W k => l01List_any A c ns W (HR.out.below k) HF.out
  clear h hr hB
  generalize listS ns = LS at *
  go_enter Tryd.func39, Tryd.ntmps39
  go_wp2_with fail
  go_region_held3 (fun w' => Below w.heap.size w w') (first | (with_reducible assumption) | (with_reducible exact (Below.refl _ _).drew))
    (first
      | (go_at_call 59; (with_reducible refine (l01DecS_any _ _ (by omega) (by omega)).mono ?_); rintro e wd ⟨rfl, hbd⟩; have hSd : Below w.heap.size w wd := bl_trans (by with_reducible assumption) hbd)
      | (go_at_call 60; (with_reducible refine (HL.out _ (by assumption)).mono ?_); rintro e wd ⟨rfl, hbd⟩; have hSd : Below w.heap.size w wd := bl_trans (by with_reducible assumption) hbd))
  all_goals
    go_wp2_with fail
    go_ret
    exact ⟨(ret_str F.out).symm, by assumption⟩
theorem specFldT_any (r s : Int) (A : Option Addr) (c : Nat) (ns : List Int) (w : World) (hr : RdI w A ns) (hn : ns.length ≤ 1048576) :
    Calls Tryd.prog 14 #[.agg #[.int .i64 r, .int .i64 s, .slice A ns.length c]] w fun e w' => e = .returned (.string (fldT r s ns)) ∧ Below w.heap.size w w' := by
  have hb := bl_alloc (Below.refl w.heap.size w) (.cells #[.int .i64 r, .int .i64 s, .slice A ns.length c] 32)
  have HR := Lib.hid (hr.below hb)
  have HB := Lib.hid (FBx.new w 32 r s A ns.length c)
  have HBb := Lib.hid hb
  clear hb hr
  rcases h : okF r s ns with _ | _
  · have F := Lib.hid (fldT_f h)
    go_enter Tryd.func14, Tryd.ntmps14
    go_wp2_with fail
    refine (l06Ok_any _ r s A c ns _ HB.out HR.out hn).mono ?_
    rintro e w1 ⟨rfl, hb1⟩
    go_wp2_with fail
    go_ret
    exact ⟨(ret_str F.out).symm, bl_trans HBb.out hb1⟩
  · have F := Lib.hid (fldT_t h)
    have HO := Lib.hid h
    go_enter Tryd.func14, Tryd.ntmps14
    go_wp2_with fail
    refine (l06Ok_any _ r s A c ns _ HB.out HR.out hn).mono ?_
    rintro e w1 ⟨rfl, hb1⟩
    go_wp2_with fail
    refine (l06Text_any _ r s A c ns _ (HB.out.below hb1) (HR.out.below hb1) HO.out).mono ?_
    rintro e w2 ⟨rfl, hb2⟩
    go_wp2_with fail
    go_ret
    exact ⟨(ret_str F.out).symm, bl_trans HBb.out (bl_trans hb1 hb2)⟩
set_option maxHeartbeats 2000000 in
theorem implFldT_any (r s : Int) (A : Option Addr) (c : Nat) (ns : List Int) (w : World) (hr : RdI w A ns) (hn : ns.length ≤ 1048576) (ht : TabOk w) :
    Calls Tryd.prog 16 #[.agg #[.int .i64 r, .int .i64 s, .slice A ns.length c]] w fun e w' => e = .returned (.string (fldT r s ns)) ∧ Below w.heap.size w w' := by
  have hb := bl_alloc (Below.refl w.heap.size w) (.cells #[.int .i64 r, .int .i64 s, .slice A ns.length c] 32)
  have HR := Lib.hid (hr.below hb)
  have HB := Lib.hid (FBx.new w 32 r s A ns.length c)
  have HBb := Lib.hid hb
  have HT := Lib.hid (ht.on hb)
  clear hb hr ht
  rcases h : okF r s ns with _ | _
  · have F := Lib.hid (fldT_f h)
    go_enter Tryd.func16, Tryd.ntmps16
    go_wp2_with fail
    refine (implValidF_any r s A c ns _ HR.out hn).mono ?_
    rintro e w1 ⟨rfl, hb1⟩
    go_wp2_with fail
    go_ret
    exact ⟨(ret_str F.out).symm, bl_trans HBb.out hb1⟩
  · have F := Lib.hid (fldT_t h)
    obtain ⟨b0, b1, b2, b3, _, _, _⟩ := okF_yes h
    have HF := Lib.hid (okF_fits h)
    have z1 := decS_size r (by omega) (by omega)
    have z2 := decS_size s (by omega) (by omega)
    have z3 := listS_size HF.out
    have z4 : (⟨#[120]⟩ : ByteArray).size ≤ 1 := by decide
    have z5 : (⟨#[32]⟩ : ByteArray).size ≤ 1 := by decide
    have k1 := fun W : World => run_string_add_sum (P := Tryd.prog) W (decS r) ⟨#[120]⟩ (by omega)
    have k2 := fun W : World => run_string_add_sum (P := Tryd.prog) W (decS r ++ ⟨#[120]⟩) (decS s) (by rw [ByteArray.size_append]; omega)
    have k3 := fun W : World => run_string_add_sum (P := Tryd.prog) W (decS r ++ ⟨#[120]⟩ ++ decS s) ⟨#[32]⟩ (by rw [ByteArray.size_append, ByteArray.size_append]; omega)
    have k4 := fun W : World => run_string_add_sum (P := Tryd.prog) W (decS r ++ ⟨#[120]⟩ ++ decS s ++ ⟨#[32]⟩) (listS ns) (by rw [ByteArray.size_append, ByteArray.size_append, ByteArray.size_append]; omega)
    have F2 : Hid (fldT r s ns = decS r ++ ⟨#[120]⟩ ++ decS s ++ ⟨#[32]⟩ ++ listS ns) := Lib.hid (F.out.trans rfl)
    go_enter Tryd.func16, Tryd.ntmps16
    go_wp2_with fail
    refine (implValidF_any r s A c ns _ HR.out hn).mono ?_
    rintro e w1 ⟨rfl, hb1⟩
    have hBx := HB.out.below hb1
    have hpl := hBx.lt
    have HBb1 := Lib.hid (bl_trans HBb.out hb1)
    have q0 : ∀ w' : World, Below w1.heap.size w1 w' → w'.cell? ⟨w.heap.size, 0, none⟩ = some (.int .i64 r) := fun w' k => (hBx.below k).c0
    have q1 : ∀ w' : World, Below w1.heap.size w1 w' → w'.cell? ⟨w.heap.size, 1, none⟩ = some (.int .i64 s) := fun w' k => (hBx.below k).c1
    have q2 : ∀ w' : World, Below w1.heap.size w1 w' → w'.cell? ⟨w.heap.size, 2, none⟩ = some (.slice A ns.length c) := fun w' k => (hBx.below k).c2
    have HD : Hid (∀ W : World, Below w1.heap.size w1 W → ∀ n : Int, -100 ≤ n → n ≤ 100 → Calls Tryd.prog 42 #[.int .i64 n] W fun e w' => e = .returned (.string (decS n)) ∧ Below W.heap.size W w') := Lib.hid fun W k n n0 n1 => implDec_any n W (by omega) (by omega) ((HT.out.on hb1).on k)
    have HL : Hid (∀ W : World, Below w1.heap.size w1 W → Calls Tryd.prog 36 #[.slice A ns.length c] W fun e w' => e = .returned (.string (listS ns)) ∧ Below W.heap.size W w') := Lib.hid fun W k => by
      rw [← listT_t HF.out]
      exact implListT_any A c ns W ((HR.out.below hb1).below k) hn ((HT.out.on hb1).on k)
    clear hBx F
    generalize listS ns = LS at *
    go_wp2_with fail
    clear h
    go_region_held3 (fun w' => Below w1.heap.size w1 w') (first | (with_reducible assumption) | (with_reducible exact (Below.refl _ _).drew))
      (first
        | (go_at_call 42; (with_reducible refine (HD.out _ (by assumption) _ (by omega) (by omega)).mono ?_); rintro e wd ⟨rfl, hbd⟩; have hSd : Below w1.heap.size w1 wd := bl_trans (by with_reducible assumption) hbd)
        | (go_at_call 36; (with_reducible refine (HL.out _ (by assumption)).mono ?_); rintro e wd ⟨rfl, hbd⟩; have hSd : Below w1.heap.size w1 wd := bl_trans (by with_reducible assumption) hbd))
    all_goals
      go_wp2_with fail
      go_ret
      exact ⟨(ret_str F2.out).symm, bl_trans HBb1.out (by assumption)⟩
end Go.Proofs.YtcpdipopajhajaaDoor
