/- The layer at a height: the contracts of the program's and of the reference's LayerAt. -/
import Derived.Test.YtfndcahjjlcnaaaHeight
namespace Go.Proofs.Ytfndcahjjlcnaaa
open Go.ChangeShapes Go.WideShapes Go.ChangeAt Go.RowKit Go.Joins Go.Deep
set_option linter.unusedVariables false
def atF : List Ly → Int → Nat
  | [], _ => 0
  | x :: l, h => if h < thick x then 0 else atF l (h - thick x) + 1
theorem atF_step (ls : List Ly) (h : Int) : ∀ (k : Nat) (hk : k < ls.length), (∀ j, j ≤ k → sumF thick (ls.take j) ≤ h) → h < sumF thick (ls.take (k + 1)) → atF ls h = k := by
  induction ls generalizing h with
  | nil => intro k hk; simp at hk
  | cons x l ih =>
    intro k hk hlo hhi
    match k with
    | 0 =>
      simp only [atF]
      rw [if_pos (by simpa [sumF] using hhi)]
    | k + 1 =>
      have h1 := hlo 1 (by omega)
      have e1 : sumF thick ((x :: l).take 1) = thick x := by simp [sumF]
      rw [e1] at h1
      simp only [atF]
      rw [if_neg (by omega)]
      have := ih (h - thick x) k (by simpa using hk) (fun j hj => by
        have := hlo (j + 1) (by omega)
        simp only [List.take_succ_cons, sumF] at this
        omega) (by
        simp only [List.take_succ_cons, sumF] at hhi ⊢
        omega)
      omega
theorem sum_mono {ls : List Ly} (V : VL ls) : ∀ (d j : Nat), sumF thick (ls.take j) ≤ sumF thick (ls.take (j + d))
  | 0, j => Int.le_refl _
  | d + 1, j => by
    have h1 := sum_mono V d j
    by_cases h : j + d < ls.length
    · have h2 := sumF_snoc thick ls (j + d) h
      have h3 := (thick_bd (V.get (j + d) h)).1
      rw [show j + (d + 1) = j + d + 1 from rfl]
      omega
    · rw [List.take_of_length_le (by omega : ls.length ≤ j + (d + 1))]
      rw [List.take_of_length_le (by omega : ls.length ≤ j + d)] at h1
      exact h1
theorem atF_of {ls : List Ly} (V : VL ls) (h : Int) (k : Nat) (hk : k < ls.length) (lo : 0 ≤ h - sumF thick (ls.take k)) (hi : h - sumF thick (ls.take k) < thick ls[k]) : atF ls h = k := by
  refine atF_step ls h k hk (fun j hj => ?_) ?_
  · have := sum_mono V (k - j) j
    rw [show j + (k - j) = k from by omega] at this
    omega
  · rw [sumF_snoc thick ls k hk]
    omega
def atC (ls : List Ly) (h : Int) : Int := if okL ls then (if inB h 0 (sumF thick ls - 1) then 0 else 2) else 1
def atV (ls : List Ly) (h : Int) : Int := if atC ls h = 0 then (atF ls h : Int) else 0
theorem at_1 {ls : List Ly} (h : okL ls = false) (k : Int) : atV ls k = 0 ∧ atC ls k = 1 := by
  have : atC ls k = 1 := by unfold atC; rw [h]; rfl
  exact ⟨by unfold atV; rw [this]; rfl, this⟩
theorem at_2 {ls : List Ly} {k : Int} (h : okL ls = true) (h2 : inB k 0 (sumF thick ls - 1) = false) : atV ls k = 0 ∧ atC ls k = 2 := by
  have : atC ls k = 2 := by unfold atC; rw [h, h2]; rfl
  exact ⟨by unfold atV; rw [this]; rfl, this⟩
theorem at_0 {ls : List Ly} {k : Int} (h : okL ls = true) (h2 : inB k 0 (sumF thick ls - 1) = true) : atV ls k = atF ls k ∧ atC ls k = 0 := by
  have : atC ls k = 0 := by unfold atC; rw [h, h2]; rfl
  exact ⟨by unfold atV; rw [this]; rfl, this⟩
theorem specLayerAt_any (A : Option Addr) (c : Nat) (ls : List Ly) (h : Int) (w : World) (hr : RdL w A ls) (hn : ls.length ≤ 1048576) :
    Calls Try.prog 17 #[.slice A ls.length c, .int .i64 h] w fun e w' => e = .returned (.tuple #[.int .i64 (atV ls h), .int .i64 (atC ls h)]) ∧ Below w.heap.size w w' := by
  rcases hok : okL ls with _ | _
  · have F := Lib.hid (at_1 hok h)
    go_enter Try.func17, Try.ntmps17
    go_wp2_with (go_at_call 30; refine (l03Ok_any A c ls _ hr hn).mono ?_; rintro e w' ⟨rfl, rfl⟩)
    go_ret2
    exact ⟨(ret2i F.out.1 F.out.2).symm, Below.refl _ _⟩
  have V := VL.of_ok hok
  have hs := V.sum thick 1000000 (fun x hx => thick_bd hx) (by omega) ls.length
  rw [sumF_all] at hs
  rcases hin : inB h 0 (sumF thick ls - 1) with _ | _
  · have F := Lib.hid (at_2 hok hin)
    go_enter Try.func17, Try.ntmps17
    go_wp2_with (first | (go_at_call 30; refine (l03Ok_any A c ls _ hr hn).mono ?_; rintro e w' ⟨rfl, rfl⟩) | (go_at_call 35; refine (l00In_any _ _ _ _).mono ?_; rintro e w' ⟨rfl, rfl⟩) | (go_at_call 31; refine (l03Height_any A c ls _ hr V).mono ?_; rintro e w1 ⟨rfl, hb1⟩))
    go_ret2
    exact ⟨(ret2i F.out.1 F.out.2).symm, hb1⟩
  have F := Lib.hid (at_0 hok hin)
  obtain ⟨k0, k1⟩ := inB_yes hin
  go_enter Try.func17, Try.ntmps17
  go_wp2_with (first | (go_at_call 30; refine (l03Ok_any A c ls _ hr hn).mono ?_; rintro e w' ⟨rfl, rfl⟩) | (go_at_call 35; refine (l00In_any _ _ _ _).mono ?_; rintro e w' ⟨rfl, rfl⟩) | (go_at_call 31; refine (l03Height_any A c ls _ hr V).mono ?_; rintro e w1 ⟨rfl, hb1⟩))
  clear hin hok
  go_loopw [1, 6] (fun a i wr => ∃ (k : Nat) (r : Int), k < ls.length ∧ i = .int .i64 k ∧ a = .int .i64 r ∧ 0 ≤ r ∧ r ≤ 16000000 ∧ Hid (r = h - sumF thick (ls.take k)) ∧ Below w.heap.size w wr) (fun _ i _ => ls.length - (intOf i).toNat)
  case atStart =>
    have h0 : 0 < ls.length := by
      rcases Nat.eq_zero_or_pos ls.length with e | e
      · have e := List.eq_nil_of_length_eq_zero e
        rw [e] at k1
        simp [sumF] at k1
        omega
      · exact e
    exact ⟨0, h, h0, rfl, rfl, k0, by omega, by show h = _; simp [sumF], hb1⟩
  case round =>
    obtain ⟨k, r, hlt, rfl, rfl, r0, r1, HR, hb⟩ := hrel
    obtain ⟨g, o, rfl, hx⟩ := (hr.below hb).at_ k hlt
    obtain ⟨t0, t1⟩ := thick_bd (V.get k hlt)
    have hB := V.get k hlt
    have h16 := V.len
    by_cases hge : thick ls[k] ≤ r
    · have hk1 : k + 1 < ls.length := by
        have S1 := sumF_snoc thick ls k hlt
        have e := HR.out
        rcases Nat.lt_or_ge (k + 1) ls.length with c | c
        · exact c
        · rw [List.take_of_length_le c] at S1
          omega
      have HR2 : Hid (r - thick ls[k] = h - sumF thick (ls.take (k + 1))) := by
        show _ = _
        rw [sumF_snoc thick ls k hlt]
        have e := HR.out
        omega
      go_wp2_with fail
      refine (l03Thick_any ls[k] _ _ _ hB hx).mono ?_
      rintro e w2 ⟨rfl, n1, rfl⟩
      go_wp2_with fail
      refine (l03Thick_any ls[k] _ _ _ hB (hx.drewN n1)).mono ?_
      rintro e w3 ⟨rfl, n2, rfl⟩
      go_wp2_with fail
      go_roundw
      case rel => exact ⟨k + 1, r - thick ls[k], hk1, by go_num, rfl, by omega, by omega, HR2, bl_drewN hb _⟩
      case measure => simp [intOf]; omega
    · have HF : Hid (atF ls h = k) := atF_of V h k hlt (by have e := HR.out; omega) (by have e := HR.out; omega)
      go_wp2_with fail
      refine (l03Thick_any ls[k] _ _ _ hB hx).mono ?_
      rintro e w2 ⟨rfl, n1, rfl⟩
      go_wp2_with fail
      go_ret2
      exact ⟨ret2i (by rw [F.out.1, HF.out]) F.out.2.symm, bl_drewN hb _⟩
theorem implLayerAt_any (A : Option Addr) (c : Nat) (ls : List Ly) (h : Int) (w : World) (hr : RdL w A ls) (hn : ls.length ≤ 1048576) :
    Calls Try.prog 18 #[.slice A ls.length c, .int .i64 h] w fun e w' => e = .returned (.tuple #[.int .i64 (atV ls h), .int .i64 (atC ls h)]) ∧ Below w.heap.size w w' := by
  rcases hok : okL ls with _ | _
  · have F := Lib.hid (at_1 hok h)
    go_enter Try.func18, Try.ntmps18
    go_wp2_with (go_at_call 32; refine (validProfile_any A c ls _ hr hn).mono ?_; rintro e w1 ⟨rfl, hb1⟩)
    go_ret2
    exact ⟨(ret2i F.out.1 F.out.2).symm, hb1⟩
  have V := VL.of_ok hok
  have hs := V.sum thick 1000000 (fun x hx => thick_bd hx) (by omega) ls.length
  rw [sumF_all] at hs
  rcases hin : inB h 0 (sumF thick ls - 1) with _ | _
  · have F := Lib.hid (at_2 hok hin)
    go_enter Try.func18, Try.ntmps18
    go_wp2_with (first | (go_at_call 32; refine (validProfile_any A c ls _ hr hn).mono ?_; rintro e w1 ⟨rfl, hb1⟩) | (go_at_call 37; refine (within_any _ _ _ _).mono ?_; rintro e w' ⟨rfl, rfl⟩) | (go_at_call 33; refine (heightOf_any A c ls _ (hr.below hb1) V).mono ?_; rintro e w2 ⟨rfl, hb2⟩))
    go_ret2
    exact ⟨(ret2i F.out.1 F.out.2).symm, bl_trans hb1 hb2⟩
  have F := Lib.hid (at_0 hok hin)
  obtain ⟨k0, k1⟩ := inB_yes hin
  go_enter Try.func18, Try.ntmps18
  go_wp2_with (first | (go_at_call 32; refine (validProfile_any A c ls _ hr hn).mono ?_; rintro e w1 ⟨rfl, hb1⟩) | (go_at_call 37; refine (within_any _ _ _ _).mono ?_; rintro e w' ⟨rfl, rfl⟩) | (go_at_call 33; refine (heightOf_any A c ls _ (hr.below hb1) V).mono ?_; rintro e w2 ⟨rfl, hb2⟩))
  clear hin hok
  have hb12 := bl_trans hb1 hb2
  go_loopw [1, 6] (fun a i wr => ∃ (k : Nat) (r : Int), k < ls.length ∧ i = .int .i64 k ∧ a = .int .i64 r ∧ 0 ≤ r ∧ r ≤ 16000000 ∧ Hid (r = h - sumF thick (ls.take k)) ∧ Below w.heap.size w wr) (fun _ i _ => ls.length - (intOf i).toNat)
  case atStart =>
    have h0 : 0 < ls.length := by
      rcases Nat.eq_zero_or_pos ls.length with e | e
      · have e := List.eq_nil_of_length_eq_zero e
        rw [e] at k1
        simp [sumF] at k1
        omega
      · exact e
    exact ⟨0, h, h0, rfl, rfl, k0, by omega, by show h = _; simp [sumF], hb12⟩
  case round =>
    obtain ⟨k, r, hlt, rfl, rfl, r0, r1, HR, hb⟩ := hrel
    obtain ⟨g, o, rfl, hx⟩ := (hr.below hb).at_ k hlt
    have hX := hx
    obtain ⟨t0, t1⟩ := thick_bd (V.get k hlt)
    have hB := V.get k hlt
    have h16 := V.len
    by_cases hge : thick ls[k] ≤ r
    · have hk1 : k + 1 < ls.length := by
        have S1 := sumF_snoc thick ls k hlt
        have e := HR.out
        rcases Nat.lt_or_ge (k + 1) ls.length with c | c
        · exact c
        · rw [List.take_of_length_le c] at S1
          omega
      have HR2 : Hid (r - thick ls[k] = h - sumF thick (ls.take (k + 1))) := by
        show _ = _
        rw [sumF_snoc thick ls k hlt]
        have e := HR.out
        omega
      obtain ⟨c0, c1, c2, c3, c4, c5, c6⟩ := hx
      go_wp2_with fail
      clear c0 c1 c2 c3 c4 c5 c6
      refine (thickness_any ls[k] _ hB).mono ?_
      rintro e w3 ⟨rfl, hb3⟩
      obtain ⟨c0, c1, c2, c3, c4, c5, c6⟩ := hX.below hb3 hX.lt
      go_wp2_with fail
      clear c0 c1 c2 c3 c4 c5 c6
      refine (thickness_any ls[k] _ hB).mono ?_
      rintro e w4 ⟨rfl, hb4⟩
      go_wp2_with fail
      go_roundw
      case rel => exact ⟨k + 1, r - thick ls[k], hk1, by go_num, rfl, by omega, by omega, HR2, bl_trans (bl_trans hb hb3) hb4⟩
      case measure => simp [intOf]; omega
    · have HF : Hid (atF ls h = k) := atF_of V h k hlt (by have e := HR.out; omega) (by have e := HR.out; omega)
      obtain ⟨c0, c1, c2, c3, c4, c5, c6⟩ := hx
      go_wp2_with fail
      clear c0 c1 c2 c3 c4 c5 c6
      refine (thickness_any ls[k] _ hB).mono ?_
      rintro e w3 ⟨rfl, hb3⟩
      go_wp2_with fail
      go_ret2
      exact ⟨ret2i (by rw [F.out.1, HF.out]) F.out.2.symm, bl_trans hb hb3⟩
end Go.Proofs.Ytfndcahjjlcnaaa
