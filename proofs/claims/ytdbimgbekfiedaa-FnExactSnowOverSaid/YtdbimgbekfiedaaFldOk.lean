/- Valid fields and their mass: plain laws, and the contracts of the program's and of the reference's functions. No condition. -/
import Derived.Test.YtdbimgbekfiedaaFldBx
import Derived.Test.YtdbimgbekfiedaaQuiet
namespace Go.Proofs.Ytdbimgbekfiedaa
open Go.ChangeShapes Go.WideShapes Go.ChangeAt Go.RowKit Go.Deep Go.Joins
set_option linter.unusedVariables false
def okM (n : Int) : Bool := inB n 0 1000000
def okF (r s : Int) (ns : List Int) : Bool := inB r 1 8 && (inB s 1 8 && (decide ((ns.length : Int) = r * s) && ns.all okM))
theorem okF_1 {r s : Int} {ns : List Int} (h : inB r 1 8 = false) : okF r s ns = false := by unfold okF; rw [h]; rfl
theorem okF_2 {r s : Int} {ns : List Int} (h : inB s 1 8 = false) : okF r s ns = false := by unfold okF; rw [h]; simp
theorem okF_3 {r s : Int} {ns : List Int} (h : ¬ (ns.length : Int) = r * s) : okF r s ns = false := by unfold okF; rw [decide_eq_false h]; simp
theorem okF_t {r s : Int} {ns : List Int} (h : inB r 1 8 = true) (k : inB s 1 8 = true) (l : (ns.length : Int) = r * s) : okF r s ns = ns.all okM := by unfold okF; rw [h, k, decide_eq_true l]; rfl
theorem okF_yes {r s : Int} {ns : List Int} (h : okF r s ns = true) : 1 ≤ r ∧ r ≤ 8 ∧ 1 ≤ s ∧ s ≤ 8 ∧ (ns.length : Int) = r * s ∧ ns.length ≤ 64 ∧ ns.all okM = true := by
  unfold okF at h
  simp only [Bool.and_eq_true, decide_eq_true_eq] at h
  obtain ⟨h1, h2, h3, h4⟩ := h
  obtain ⟨a, b⟩ := inB_yes h1
  obtain ⟨c, d⟩ := inB_yes h2
  have hp : r * s ≤ 8 * 8 := Int.mul_le_mul b d (by omega) (by omega)
  exact ⟨a, b, c, d, h3, by omega, h4⟩
theorem mul_bd {r s : Int} (h : inB r 1 8 = true) (k : inB s 1 8 = true) : 1 ≤ r * s ∧ r * s ≤ 64 := by
  obtain ⟨a, b⟩ := inB_yes h
  obtain ⟨c, d⟩ := inB_yes k
  have hp : r * s ≤ 8 * 8 := Int.mul_le_mul b d (by omega) (by omega)
  have hq : 1 * 1 ≤ r * s := Int.mul_le_mul a c (by omega) (by omega)
  omega
theorem allM_snoc (ns : List Int) (k : Nat) (h : k < ns.length) (ha : (ns.take k).all okM = true) (hk : okM ns[k] = true) : (ns.take (k + 1)).all okM = true := by
  rw [List.take_succ_eq_append_getElem h, List.all_append, ha]
  simp [hk]
theorem allM_bad (ns : List Int) (k : Nat) (h : k < ns.length) (hk : okM ns[k] = false) : ns.all okM = false := by
  cases e : ns.all okM
  · rfl
  · have := List.all_eq_true.1 e _ (List.getElem_mem h)
    rw [hk] at this
    cases this
theorem allM_take (ns : List Int) (h : (ns.take ns.length).all okM = true) : ns.all okM = true := by rwa [List.take_length] at h
/-- The sum of the first k masses. -/
def sumK (ns : List Int) (k : Nat) : Int := (ns.take k).foldl (· + ·) 0
theorem sumK_0 (ns : List Int) : sumK ns 0 = 0 := rfl
theorem sumK_s (ns : List Int) (k : Nat) (h : k < ns.length) : sumK ns (k + 1) = sumK ns k + ns[k] := by
  unfold sumK
  rw [List.take_succ_eq_append_getElem h, List.foldl_append]
  rfl
theorem okM_bd {n : Int} (h : okM n = true) : 0 ≤ n ∧ n ≤ 1000000 := inB_yes h
theorem sumK_bd (ns : List Int) (h : ns.all okM = true) : ∀ k, k ≤ ns.length → 0 ≤ sumK ns k ∧ sumK ns k ≤ 1000000 * (k : Int)
  | 0, _ => by rw [sumK_0]; omega
  | k + 1, hk => by
    have ih := sumK_bd ns h k (by omega)
    have := okM_bd (List.all_eq_true.1 h _ (List.getElem_mem (show k < ns.length by omega)))
    rw [sumK_s ns k (by omega)]
    push_cast
    omega
theorem l06Masses_any (p : Nat) (r s : Int) (A : Option Addr) (c : Nat) (ns : List Int) (w : World) (hB : FBx w p r s A ns.length c) (hr : RdI w A ns) (hn : ns.length ≤ 1048576) :
    Calls Try.prog 15 #[.pointer (some ⟨p, 0, none⟩)] w fun e w' => e = .returned (.bool (ns.all okM)) ∧ w = w' := by
  obtain ⟨c0, c1, c2⟩ := hB.fb
  go_enter Try.func15, Try.ntmps15
  go_wp2_with fail
  go_loop [3] (fun i => ∃ k : Nat, k ≤ ns.length ∧ i = .int .i64 k ∧ Hid ((ns.take k).all okM = true)) (fun i => ns.length - (intOf i).toNat)
  case atStart => exact ⟨0, Nat.zero_le _, rfl, by show _ = _; simp⟩
  case round =>
    obtain ⟨k, hk, rfl, ha⟩ := hrel
    by_cases hlt : k < ns.length
    · obtain ⟨g, o, rfl, hx⟩ := hr.at_ k hlt
      rcases hv : okM ns[k] with _ | _
      · have F := Lib.hid (allM_bad ns k hlt hv)
        have hv' : inB ns[k] 0 1000000 = false := hv
        clear hv
        go_wp2_with (first | (go_at_call 23; refine (l00In_any _ _ _ _).mono ?_; rintro e w' ⟨rfl, rfl⟩) | (go_at_call 13; go_in))
        go_ret
        exact ⟨(ret_bool F.out).symm, rfl⟩
      · have HA := Lib.hid (allM_snoc ns k hlt ha.out hv)
        have hv' : inB ns[k] 0 1000000 = true := hv
        clear hv
        go_wp2_with (first | (go_at_call 23; refine (l00In_any _ _ _ _).mono ?_; rintro e w' ⟨rfl, rfl⟩) | (go_at_call 13; go_in))
        go_round
        case rel => exact ⟨k + 1, by omega, by go_num, HA⟩
        case measure => simp [intOf]; omega
    · obtain rfl : k = ns.length := by omega
      have F := Lib.hid (allM_take ns ha.out)
      go_wp2_with fail
      go_ret
      exact ⟨(ret_bool F.out).symm, rfl⟩
set_option maxHeartbeats 2000000 in
theorem l06Ok_any (p : Nat) (r s : Int) (A : Option Addr) (c : Nat) (ns : List Int) (w : World) (hB : FBx w p r s A ns.length c) (hr : RdI w A ns) (hn : ns.length ≤ 1048576) :
    Calls Try.prog 12 #[.pointer (some ⟨p, 0, none⟩)] w fun e w' => e = .returned (.bool (okF r s ns)) ∧ Below w.heap.size w w' := by
  have HB := Lib.hid hB
  obtain ⟨c0, c1, c2⟩ := hB.fb
  clear hB
  rcases h1 : inB r 1 8 with _ | _
  · have F := Lib.hid (okF_1 (s := s) (ns := ns) h1)
    go_enter Try.func12, Try.ntmps12
    go_wp2_with fail
    go_quiet ((go_at_call 23; exact quiet_lft (l00In_any _ _ _ _)))
    go_wp2_with fail
    go_ret
    exact ⟨(ret_bool F.out).symm, bl_drewN (Below.refl _ _) _⟩
  rcases h2 : inB s 1 8 with _ | _
  · have F := Lib.hid (okF_2 (r := r) (ns := ns) h2)
    go_enter Try.func12, Try.ntmps12
    go_wp2_with fail
    go_quiet ((go_at_call 23; exact quiet_lft (l00In_any _ _ _ _)))
    go_wp2_with fail
    go_ret
    exact ⟨(ret_bool F.out).symm, bl_drewN (Below.refl _ _) _⟩
  obtain ⟨m0, m1⟩ := mul_bd h1 h2
  have hw : IntKind.i64.wrap (r * s) = r * s := by rw [IntKind.wrap_i64]; omega
  by_cases h3 : (ns.length : Int) = r * s
  · have F := Lib.hid (okF_t h1 h2 h3)
    have hne : ((ns.length : Int) != r * s) = false := by rw [bne_eq_false_iff_eq]; exact h3
    clear h3
    go_enter Try.func12, Try.ntmps12
    go_wp2_with fail
    go_quiet ((go_at_call 23; exact quiet_lft (l00In_any _ _ _ _)))
    go_wp2_with fail
    refine (l06Masses_any p r s A c ns _ (HB.out.below (bl_drewN (Below.refl _ _) _)) (hr.drewN _) hn).mono ?_
    rintro e w' ⟨rfl, rfl⟩
    go_wp2_with fail
    go_ret
    exact ⟨(ret_bool F.out).symm, bl_drewN (Below.refl _ _) _⟩
  · have F := Lib.hid (okF_3 h3)
    have hne : ((ns.length : Int) != r * s) = true := by rw [bne_iff_ne]; exact h3
    clear h3
    go_enter Try.func12, Try.ntmps12
    go_wp2_with fail
    go_quiet ((go_at_call 23; exact quiet_lft (l00In_any _ _ _ _)))
    go_wp2_with fail
    go_ret
    exact ⟨(ret_bool F.out).symm, bl_drewN (Below.refl _ _) _⟩
theorem aw1_any (x l h : Int) (p q : Nat) (w : World) (hp : w.cell? ⟨p, 0, none⟩ = some (.int .i64 l)) (hq : w.cell? ⟨q, 0, none⟩ = some (.int .i64 h)) :
    Calls Try.prog 26 #[.int .i64 x, .pointer (some ⟨p, 0, none⟩), .pointer (some ⟨q, 0, none⟩)] w fun e w' => e = .returned (.bool (!inB x l h)) ∧ w = w' := by
  go_enter Try.func26, Try.ntmps26
  go_wp2_with (go_at_call 18; refine (within_any _ _ _ _).mono ?_; rintro e w' ⟨rfl, rfl⟩)
  go_ret
  exact ⟨rfl, rfl⟩
theorem idxM_all (A : Option Addr) (c : Nat) (ns : List Int) (p q : Nat) (w : World) (hr : RdI w A ns) (hn : ns.length ≤ 1048576) (hp : w.cell? ⟨p, 0, none⟩ = some (.int .i64 0)) (hq : w.cell? ⟨q, 0, none⟩ = some (.int .i64 1000000)) (h : ns.all okM = true) :
    Calls Try.prog 27 #[.slice A ns.length c, .func (.func 26) #[] #[.pointer (some ⟨p, 0, none⟩), .pointer (some ⟨q, 0, none⟩)]] w fun e w' => e = .returned (.int .i64 (-1)) ∧ w = w' := by
  have HALL : ∀ k (hk : k < ns.length), okM ns[k] = true := fun k hk => List.all_eq_true.1 h _ (List.getElem_mem _)
  have H := Lib.hid HALL
  clear HALL h
  go_enter Try.func27, Try.ntmps27
  go_wp2_with fail
  go_loop [8] (fun i => ∃ k : Nat, k ≤ ns.length ∧ i = .int .i64 k) (fun i => ns.length - (intOf i).toNat)
  case atStart => exact ⟨0, Nat.zero_le _, rfl⟩
  case round =>
    obtain ⟨k, hk, rfl⟩ := hrel
    by_cases hlt : k < ns.length
    · obtain ⟨g, o, rfl, hx⟩ := hr.at_ k hlt
      have ho : inB ns[k] 0 1000000 = true := H.out k hlt
      go_wp2_with fail
      refine (aw1_any _ _ _ _ _ _ hp hq).mono ?_
      rintro e w1 ⟨rfl, rfl⟩
      go_wp2_with fail
      go_round
      case rel => exact ⟨k + 1, by omega, by go_num⟩
      case measure => simp [intOf]; omega
    · obtain rfl : k = ns.length := by omega
      go_wp2_with fail
      go_ret
      exact ⟨rfl, rfl⟩
def FoundM (w : World) (e : Ending) (w' : World) : Prop := ∃ k : Nat, e = .returned (.int .i64 (k : Int)) ∧ k ≤ 1048576 ∧ w = w'
theorem idxM_bad (A : Option Addr) (c : Nat) (ns : List Int) (p q : Nat) (w : World) (hr : RdI w A ns) (hn : ns.length ≤ 1048576) (hp : w.cell? ⟨p, 0, none⟩ = some (.int .i64 0)) (hq : w.cell? ⟨q, 0, none⟩ = some (.int .i64 1000000)) (h : ns.all okM = false) :
    Calls Try.prog 27 #[.slice A ns.length c, .func (.func 26) #[] #[.pointer (some ⟨p, 0, none⟩), .pointer (some ⟨q, 0, none⟩)]] w (FoundM w) := by
  have H := Lib.hid h
  clear h
  go_enter Try.func27, Try.ntmps27
  go_wp2_with fail
  go_loop [8] (fun i => ∃ k : Nat, k ≤ ns.length ∧ i = .int .i64 k ∧ Hid ((ns.take k).all okM = true)) (fun i => ns.length - (intOf i).toNat)
  case atStart => exact ⟨0, Nat.zero_le _, rfl, by show _ = _; simp⟩
  case round =>
    obtain ⟨k, hk, rfl, HA⟩ := hrel
    by_cases hlt : k < ns.length
    · obtain ⟨g, o, rfl, hx⟩ := hr.at_ k hlt
      rcases ho : okM ns[k] with _ | _
      · have ho' : inB ns[k] 0 1000000 = false := ho
        clear ho
        go_wp2_with fail
        refine (aw1_any _ _ _ _ _ _ hp hq).mono ?_
        rintro e w1 ⟨rfl, rfl⟩
        go_wp2_with fail
        go_ret
        exact ⟨k, rfl, by omega, rfl⟩
      · have HB := Lib.hid (allM_snoc ns k hlt HA.out ho)
        have ho' : inB ns[k] 0 1000000 = true := ho
        clear ho
        go_wp2_with fail
        refine (aw1_any _ _ _ _ _ _ hp hq).mono ?_
        rintro e w1 ⟨rfl, rfl⟩
        go_wp2_with fail
        go_round
        case rel => exact ⟨k + 1, by omega, by go_num, HB⟩
        case measure => simp [intOf]; omega
    · obtain rfl : k = ns.length := by omega
      exfalso
      have h1 := allM_take ns HA.out
      rw [H.out] at h1
      cases h1
theorem contM_any (A : Option Addr) (c : Nat) (ns : List Int) (p q : Nat) (w : World) (hr : RdI w A ns) (hn : ns.length ≤ 1048576) (hp : w.cell? ⟨p, 0, none⟩ = some (.int .i64 0)) (hq : w.cell? ⟨q, 0, none⟩ = some (.int .i64 1000000)) :
    Calls Try.prog 25 #[.slice A ns.length c, .func (.func 26) #[] #[.pointer (some ⟨p, 0, none⟩), .pointer (some ⟨q, 0, none⟩)]] w fun e w' => e = .returned (.bool (!ns.all okM)) ∧ w = w' := by
  rcases h : ns.all okM with _ | _
  · go_enter Try.func25, Try.ntmps25
    go_wp2_with fail
    refine (idxM_bad A c ns p q _ hr hn hp hq h).mono ?_
    rintro e w1 ⟨k, rfl, hk, rfl⟩
    go_wp2_with fail
    go_ret
    exact ⟨rfl, rfl⟩
  · go_enter Try.func25, Try.ntmps25
    go_wp2_with fail
    refine (idxM_all A c ns p q _ hr hn hp hq h).mono ?_
    rintro e w1 ⟨rfl, rfl⟩
    go_wp2_with fail
    go_ret
    exact ⟨rfl, rfl⟩
theorem allWithinM_any (A : Option Addr) (c : Nat) (ns : List Int) (w : World) (hr : RdI w A ns) (hn : ns.length ≤ 1048576) :
    Calls Try.prog 24 #[.slice A ns.length c, .int .i64 0, .int .i64 1000000] w fun e w' => e = .returned (.bool (ns.all okM)) ∧ Below w.heap.size w w' := by
  have hb := bl_alloc (bl_alloc (Below.refl w.heap.size w) (.cells #[.int .i64 0] 2)) (.cells #[.int .i64 1000000] 2)
  have HR := Lib.hid (hr.below hb)
  have HBb := Lib.hid hb
  have hp : ((w.alloc (.cells #[.int .i64 0] 2)).alloc (.cells #[.int .i64 1000000] 2)).cell? ⟨w.heap.size, 0, none⟩ = some (.int .i64 0) := by simp [go_sem]
  have hq : ((w.alloc (.cells #[.int .i64 0] 2)).alloc (.cells #[.int .i64 1000000] 2)).cell? ⟨w.heap.size + 1, 0, none⟩ = some (.int .i64 1000000) := by simp [go_sem]
  have HP := Lib.hid hp
  have HQ := Lib.hid hq
  clear hb hp hq hr
  go_enter Try.func24, Try.ntmps24
  go_wp2_with fail
  refine (contM_any A c ns _ _ _ HR.out hn HP.out HQ.out).mono ?_
  rintro e w1 ⟨rfl, rfl⟩
  go_wp2_with fail
  go_ret
  exact ⟨by simp, HBb.out⟩
set_option maxHeartbeats 1000000 in
theorem implValidF_any (r s : Int) (A : Option Addr) (c : Nat) (ns : List Int) (w : World) (hr : RdI w A ns) (hn : ns.length ≤ 1048576) :
    Calls Try.prog 17 #[.agg #[.int .i64 r, .int .i64 s, .slice A ns.length c]] w fun e w' => e = .returned (.bool (okF r s ns)) ∧ Below w.heap.size w w' := by
  have hb := bl_alloc (Below.refl w.heap.size w) (.cells #[.int .i64 r, .int .i64 s, .slice A ns.length c] 26)
  have HR := Lib.hid (hr.below hb)
  have HBb := Lib.hid hb
  clear hb hr
  rcases h1 : inB r 1 8 with _ | _
  · have F := Lib.hid (okF_1 (s := s) (ns := ns) h1)
    go_enter Try.func17, Try.ntmps17
    go_wp2_with (go_at_call 18; refine (within_any _ _ _ _).mono ?_; rintro e w' ⟨rfl, rfl⟩)
    go_ret
    exact ⟨(ret_bool F.out).symm, HBb.out⟩
  rcases h2 : inB s 1 8 with _ | _
  · have F := Lib.hid (okF_2 (r := r) (ns := ns) h2)
    go_enter Try.func17, Try.ntmps17
    go_wp2_with (go_at_call 18; refine (within_any _ _ _ _).mono ?_; rintro e w' ⟨rfl, rfl⟩)
    go_ret
    exact ⟨(ret_bool F.out).symm, HBb.out⟩
  obtain ⟨m0, m1⟩ := mul_bd h1 h2
  have hw : IntKind.i64.wrap (r * s) = r * s := by rw [IntKind.wrap_i64]; omega
  by_cases h3 : (ns.length : Int) = r * s
  · have F := Lib.hid (okF_t h1 h2 h3)
    have hne : ((ns.length : Int) == r * s) = true := by rw [beq_iff_eq]; exact h3
    clear h3
    go_enter Try.func17, Try.ntmps17
    go_wp2_with (go_at_call 18; refine (within_any _ _ _ _).mono ?_; rintro e w' ⟨rfl, rfl⟩)
    refine (allWithinM_any A c ns _ HR.out hn).mono ?_
    rintro e w1 ⟨rfl, hb1⟩
    go_wp2_with fail
    go_ret
    exact ⟨(ret_bool F.out).symm, bl_trans HBb.out hb1⟩
  · have F := Lib.hid (okF_3 h3)
    have hne : ((ns.length : Int) == r * s) = false := by rw [beq_eq_false_iff_ne]; exact h3
    clear h3
    go_enter Try.func17, Try.ntmps17
    go_wp2_with (go_at_call 18; refine (within_any _ _ _ _).mono ?_; rintro e w' ⟨rfl, rfl⟩)
    go_ret
    exact ⟨(ret_bool F.out).symm, HBb.out⟩
end Go.Proofs.Ytdbimgbekfiedaa
