/- The check of a list of layers: the contracts of the reference's l03Ok and of the program's ValidProfile. No condition. -/
import Derived.Test.YthlandlpjhdbdaaLyS
namespace Go.Proofs.Ythlandlpjhdbdaa
open Go.ChangeShapes Go.WideShapes Go.ChangeAt Go.RowKit Go.Joins Go.Deep
set_option linter.unusedVariables false
def allOk (ls : List Ly) : Bool := ls.all lyOk
def okL (ls : List Ly) : Bool := decide (ls.length ≤ 16) && allOk ls
theorem all_snoc (ls : List Ly) (k : Nat) (h : k < ls.length) (ha : (ls.take k).all lyOk = true) (hb : lyOk ls[k] = true) : (ls.take (k + 1)).all lyOk = true := by
  rw [List.take_succ_eq_append_getElem h, List.all_append, ha]
  simp [hb]
theorem all_bad (ls : List Ly) (k : Nat) (h : k < ls.length) (hb : lyOk ls[k] = false) : allOk ls = false := by
  unfold allOk
  rw [List.all_eq_false]
  exact ⟨ls[k], List.getElem_mem _, by simp [hb]⟩
theorem all_take (ls : List Ly) (h : (ls.take ls.length).all lyOk = true) : allOk ls = true := by rwa [List.take_length] at h
theorem okL_f {ls : List Ly} (h : allOk ls = false) : okL ls = false := by unfold okL; rw [h]; simp
theorem okL_n {ls : List Ly} (h : ¬ ls.length ≤ 16) : okL ls = false := by unfold okL; rw [decide_eq_false h]; rfl
theorem okL_t {ls : List Ly} (h : allOk ls = true) (k : ls.length ≤ 16) : okL ls = true := by unfold okL; rw [h, decide_eq_true k]; rfl
theorem okL_len {ls : List Ly} (h : okL ls = true) : ls.length ≤ 16 := by
  unfold okL at h
  simp only [Bool.and_eq_true, decide_eq_true_eq] at h
  exact h.1
theorem okL_at {ls : List Ly} (h : okL ls = true) {k : Nat} {x : Ly} (hx : ls[k]? = some x) : lyOk x = true := by
  unfold okL allOk at h
  simp only [Bool.and_eq_true, List.all_eq_true] at h
  exact h.2 x (List.mem_of_getElem? hx)
structure LyB (x : Ly) : Prop where
  f0 : 1 ≤ x.form
  f1 : x.form ≤ 6
  i0 : 1 ≤ x.ice
  i1 : x.ice ≤ 1000000
  w0 : 0 ≤ x.water
  w1 : x.water ≤ 1000000
  d0 : 30 ≤ x.dens
  d1 : x.dens ≤ 900
  g0 : -4000 ≤ x.deg
  g1 : x.deg ≤ 0
  h0 : 1 ≤ x.hard
  h1 : x.hard ≤ 6
  a0 : 0 ≤ x.age
  a1 : x.age ≤ 10000
theorem lyOk_b {x : Ly} (h : lyOk x = true) : LyB x := by
  unfold lyOk at h
  simp only [Bool.and_eq_true] at h
  obtain ⟨h0, h1, h2, h3, h4, h5, h6⟩ := h
  have := inB_yes h0
  have := inB_yes h1
  have := inB_yes h2
  have := inB_yes h3
  have := inB_yes h4
  have := inB_yes h5
  have := inB_yes h6
  constructor <;> omega
theorem lyB_ok {x : Ly} (h : LyB x) : lyOk x = true := lyOk_t (inB_t h.f0 h.f1) (inB_t h.i0 h.i1) (inB_t h.w0 h.w1) (inB_t h.d0 h.d1) (inB_t h.g0 h.g1) (inB_t h.h0 h.h1) (inB_t h.a0 h.a1)
theorem l03Ok_any (A : Option Addr) (c : Nat) (ls : List Ly) (w : World) (hr : RdL w A ls) (hn : ls.length ≤ 1048576) :
    Calls Try.prog 11 #[.slice A ls.length c] w fun e w' => e = .returned (.bool (okL ls)) ∧ w = w' := by
  go_enter Try.func11, Try.ntmps11
  go_wp2_with fail
  go_loop [3] (fun i => ∃ k : Nat, k ≤ ls.length ∧ i = .int .i64 k ∧ (ls.take k).all lyOk = true) (fun i => ls.length - (intOf i).toNat)
  case atStart => exact ⟨0, Nat.zero_le _, rfl, by simp⟩
  case round =>
    obtain ⟨k, hk, rfl, ha⟩ := hrel
    have HA := Lib.hid ha
    clear ha
    by_cases hlt : k < ls.length
    · obtain ⟨g, o, rfl, hx⟩ := hr.at_ k hlt
      rcases hb : lyOk ls[k] with _ | _
      · have HB := Lib.hid (okL_f (all_bad ls k hlt hb))
        go_wp2_with fail
        refine (l03One_any ls[k] _ _ _ hx).mono ?_
        rintro e w' ⟨rfl, rfl⟩
        go_wp2_with fail
        go_ret
        exact ⟨(ret_bool HB.out).symm, rfl⟩
      · have HB := Lib.hid (all_snoc ls k hlt HA.out hb)
        go_wp2_with fail
        refine (l03One_any ls[k] _ _ _ hx).mono ?_
        rintro e w' ⟨rfl, rfl⟩
        go_wp2_with fail
        go_round
        case rel => exact ⟨k + 1, by omega, by go_num, HB.out⟩
        case measure => simp [intOf]; omega
    · obtain rfl : k = ls.length := by omega
      have HT := Lib.hid (all_take ls HA.out)
      by_cases h16 : ls.length ≤ 16
      · have HB := Lib.hid (okL_t HT.out h16)
        go_wp2_with fail
        go_ret
        exact ⟨ret_bool (by rw [HB.out]; simp; omega), rfl⟩
      · have HB := Lib.hid (okL_n h16)
        go_wp2_with fail
        go_ret
        exact ⟨ret_bool (by rw [HB.out]; simp; omega), rfl⟩
theorem vp1_any (x : Ly) (w : World) : Calls Try.prog 26 #[.agg #[.int .i64 x.form, .int .i64 x.ice, .int .i64 x.water, .int .i64 x.dens, .int .i64 x.deg, .int .i64 x.hard, .int .i64 x.age]] w fun e w' => e = .returned (.bool (!lyOk x)) ∧ Below w.heap.size w w' := by
  go_enter Try.func26, Try.ntmps26
  go_wp2_with fail
  refine (validLayer_any _ _).mono ?_
  rintro e w1 ⟨rfl, hb1⟩
  go_wp2_with fail
  go_ret
  exact ⟨rfl, bl_trans (bl_alloc (Below.refl _ _) _) hb1⟩
theorem idxF_all (A : Option Addr) (c : Nat) (ls : List Ly) (w : World) (hr : RdL w A ls) (hn : ls.length ≤ 1048576) (h : allOk ls = true) :
    Calls Try.prog 29 #[.slice A ls.length c, .func (.func 26) #[] #[]] w fun e w' => e = .returned (.int .i64 (-1)) ∧ Below w.heap.size w w' := by
  have HALL : ∀ k (hk : k < ls.length), lyOk ls[k] = true := fun k hk => by
    unfold allOk at h
    simp only [List.all_eq_true] at h
    exact h _ (List.getElem_mem _)
  have H := Lib.hid HALL
  clear HALL h
  go_enter Try.func29, Try.ntmps29
  go_wp2_with fail
  go_loopw [8] (fun i wr => ∃ k : Nat, k ≤ ls.length ∧ i = .int .i64 k ∧ Below w.heap.size w wr) (fun i _ => ls.length - (intOf i).toNat)
  case atStart => exact ⟨0, Nat.zero_le _, rfl, Below.refl _ _⟩
  case round =>
    obtain ⟨k, hk, rfl, hb⟩ := hrel
    by_cases hlt : k < ls.length
    · obtain ⟨g, o, rfl, hx⟩ := (hr.below hb).at_ k hlt
      obtain ⟨c0, c1, c2, c3, c4, c5, c6⟩ := hx
      have ho := H.out k hlt
      go_wp2_with fail
      clear c0 c1 c2 c3 c4 c5 c6
      refine (vp1_any _ _).mono ?_
      rintro e w1 ⟨rfl, hb1⟩
      go_wp2_with fail
      go_roundw
      case rel => exact ⟨k + 1, by omega, by go_num, bl_trans hb hb1⟩
      case measure => simp [intOf]; omega
    · obtain rfl : k = ls.length := by omega
      go_wp2_with fail
      go_ret
      exact ⟨rfl, hb⟩
def Found (w : World) (e : Ending) (w' : World) : Prop := ∃ k : Nat, e = .returned (.int .i64 k) ∧ k ≤ 1048576 ∧ Below w.heap.size w w'
theorem idxF_bad (A : Option Addr) (c : Nat) (ls : List Ly) (w : World) (hr : RdL w A ls) (hn : ls.length ≤ 1048576) (h : allOk ls = false) :
    Calls Try.prog 29 #[.slice A ls.length c, .func (.func 26) #[] #[]] w (Found w) := by
  have H := Lib.hid h
  clear h
  go_enter Try.func29, Try.ntmps29
  go_wp2_with fail
  go_loopw [8] (fun i wr => ∃ k : Nat, k ≤ ls.length ∧ i = .int .i64 k ∧ (ls.take k).all lyOk = true ∧ Below w.heap.size w wr) (fun i _ => ls.length - (intOf i).toNat)
  case atStart => exact ⟨0, Nat.zero_le _, rfl, by simp, Below.refl _ _⟩
  case round =>
    obtain ⟨k, hk, rfl, ha, hb⟩ := hrel
    have HA := Lib.hid ha
    clear ha
    by_cases hlt : k < ls.length
    · obtain ⟨g, o, rfl, hx⟩ := (hr.below hb).at_ k hlt
      obtain ⟨c0, c1, c2, c3, c4, c5, c6⟩ := hx
      rcases ho : lyOk ls[k] with _ | _
      · go_wp2_with fail
        clear c0 c1 c2 c3 c4 c5 c6
        refine (vp1_any _ _).mono ?_
        rintro e w1 ⟨rfl, hb1⟩
        go_wp2_with fail
        go_ret
        exact ⟨k, rfl, by omega, bl_trans hb hb1⟩
      · have HB := Lib.hid (all_snoc ls k hlt HA.out ho)
        go_wp2_with fail
        clear c0 c1 c2 c3 c4 c5 c6
        refine (vp1_any _ _).mono ?_
        rintro e w1 ⟨rfl, hb1⟩
        go_wp2_with fail
        go_roundw
        case rel => exact ⟨k + 1, by omega, by go_num, HB.out, bl_trans hb hb1⟩
        case measure => simp [intOf]; omega
    · obtain rfl : k = ls.length := by omega
      exfalso
      have h1 := all_take ls HA.out
      rw [H.out] at h1
      cases h1
theorem contF_any (A : Option Addr) (c : Nat) (ls : List Ly) (w : World) (hr : RdL w A ls) (hn : ls.length ≤ 1048576) :
    Calls Try.prog 25 #[.slice A ls.length c, .func (.func 26) #[] #[]] w fun e w' => e = .returned (.bool (!allOk ls)) ∧ Below w.heap.size w w' := by
  rcases h : allOk ls with _ | _
  · go_enter Try.func25, Try.ntmps25
    go_wp2_with fail
    refine (idxF_bad A c ls _ hr hn h).mono ?_
    rintro e w1 ⟨k, rfl, hk, hb1⟩
    go_wp2_with fail
    go_ret
    exact ⟨rfl, hb1⟩
  · go_enter Try.func25, Try.ntmps25
    go_wp2_with fail
    refine (idxF_all A c ls _ hr hn h).mono ?_
    rintro e w1 ⟨rfl, hb1⟩
    go_wp2_with fail
    go_ret
    exact ⟨rfl, hb1⟩
theorem validProfile_any (A : Option Addr) (c : Nat) (ls : List Ly) (w : World) (hr : RdL w A ls) (hn : ls.length ≤ 1048576) :
    Calls Try.prog 16 #[.slice A ls.length c] w fun e w' => e = .returned (.bool (okL ls)) ∧ Below w.heap.size w w' := by
  by_cases h16 : ls.length ≤ 16
  · rcases h : allOk ls with _ | _
    · have F := Lib.hid (okL_f h)
      go_enter Try.func16, Try.ntmps16
      go_wp2_with (go_at_call 25; refine (contF_any A c ls _ hr hn).mono ?_; rintro e w1 ⟨rfl, hb1⟩)
      go_ret
      exact ⟨(ret_bool F.out).symm, hb1⟩
    · have F := Lib.hid (okL_t h h16)
      go_enter Try.func16, Try.ntmps16
      go_wp2_with (go_at_call 25; refine (contF_any A c ls _ hr hn).mono ?_; rintro e w1 ⟨rfl, hb1⟩)
      go_ret
      exact ⟨(ret_bool F.out).symm, hb1⟩
  · have F := Lib.hid (okL_n h16)
    go_enter Try.func16, Try.ntmps16
    go_wp2_with fail
    go_ret
    exact ⟨(ret_bool F.out).symm, Below.refl _ _⟩
end Go.Proofs.Ythlandlpjhdbdaa
