/- Equality of fields: the contracts of the program's and of the reference's SameField and what they call. No condition. -/
import Derived.Test.YtnkmcejaemcfeaaFld
namespace Go.Proofs.Ytnkmcejaemcfeaa
open Go.ChangeShapes Go.WideShapes Go.ChangeAt Go.RowKit Go.Deep Go.Joins
set_option linter.unusedVariables false
def sameI (xs ys : List Int) : Bool := decide (xs = ys)
theorem sameI_len {xs ys : List Int} (h : ¬ xs.length = ys.length) : sameI xs ys = false := by unfold sameI; exact decide_eq_false (fun e => h (by rw [e]))
theorem sameI_at {xs ys : List Int} {k : Nat} (h1 : k < xs.length) (h2 : k < ys.length) (h : ¬ xs[k] = ys[k]) : sameI xs ys = false := by
  unfold sameI
  refine decide_eq_false (fun e => h ?_)
  subst e
  rfl
theorem sameI_t {xs ys : List Int} (h : xs.length = ys.length) (e : xs.take xs.length = ys.take xs.length) : sameI xs ys = true := by
  unfold sameI
  rw [List.take_length, h, List.take_length] at e
  exact decide_eq_true e
theorem take_eq {xs ys : List Int} {k : Nat} (h1 : k < xs.length) (h2 : k < ys.length) (h : xs.take k = ys.take k) (e : xs[k] = ys[k]) : xs.take (k + 1) = ys.take (k + 1) := by
  rw [List.take_succ_eq_append_getElem h1, List.take_succ_eq_append_getElem h2, h, e]
theorem l00Same_any (A B : Option Addr) (c d : Nat) (xs ys : List Int) (w : World) (hA : RdI w A xs) (hB : RdI w B ys) (hx : xs.length ≤ 1048576) (hy : ys.length ≤ 1048576) :
    Calls Try.prog 68 #[.slice A xs.length c, .slice B ys.length d] w fun e w' => e = .returned (.bool (sameI xs ys)) ∧ Below w.heap.size w w' := by
  by_cases h : xs.length = ys.length
  · have HL := Lib.hid h
    rw [← h]
    clear h
    have hyl : ∀ k, k < xs.length → k < ys.length := fun k hk => by have := HL.out; omega
    have HY := Lib.hid hyl
    clear hyl hy
    go_enter Try.func68, Try.ntmps68
    go_wp2_with fail
    go_loopw [5] (fun i wr => ∃ k : Nat, k ≤ xs.length ∧ i = .int .i64 k ∧ Hid (xs.take k = ys.take k) ∧ Below w.heap.size w wr) (fun i _ => xs.length - (intOf i).toNat)
    case atStart => exact ⟨0, Nat.zero_le _, rfl, rfl, Below.refl _ _⟩
    case round =>
      obtain ⟨k, hk, rfl, ht, hb⟩ := hrel
      by_cases hlt : k < xs.length
      · obtain ⟨g, o, rfl, e1⟩ := (hA.below hb).at_ k hlt
        obtain ⟨g', o', rfl, e2⟩ := (hB.below hb).at_ k (HY.out k hlt)
        by_cases he : xs[k] = ys[k]'(HY.out k hlt)
        · have HT : Hid (xs.take (k + 1) = ys.take (k + 1)) := Lib.hid (take_eq hlt (HY.out k hlt) ht.out he)
          rw [← he] at e2
          clear he
          go_wp2_with fail
          go_quiet (fail)
          go_wp2_with fail
          go_roundw
          case rel => exact ⟨k + 1, by omega, by go_num, HT, bl_drewN hb _⟩
          case measure => simp [intOf]; omega
        · have HN := Lib.hid (sameI_at hlt (HY.out k hlt) he)
          generalize ys[k]'(HY.out k hlt) = v at *
          generalize xs[k] = u at *
          have hq : (u == v) = false := by simp [he]
          go_wp2_with fail
          go_quiet (fail)
          go_wp2_with fail
          go_ret
          exact ⟨(ret_bool HN.out).symm, bl_drewN hb _⟩
      · obtain rfl : k = xs.length := by omega
        have HN := Lib.hid (sameI_t HL.out ht.out)
        go_wp2_with fail
        go_ret
        exact ⟨(ret_bool HN.out).symm, hb⟩
  · have HN := Lib.hid (sameI_len h)
    go_enter Try.func68, Try.ntmps68
    go_wp2_with fail
    go_ret
    exact ⟨(ret_bool HN.out).symm, Below.refl _ _⟩
theorem equalI_any (A B : Option Addr) (c d : Nat) (xs ys : List Int) (w : World) (hA : RdI w A xs) (hB : RdI w B ys) (hx : xs.length ≤ 1048576) (hy : ys.length ≤ 1048576) :
    Calls Try.prog 70 #[.slice A xs.length c, .slice B ys.length d] w fun e w' => e = .returned (.bool (sameI xs ys)) ∧ Below w.heap.size w w' := by
  by_cases h : xs.length = ys.length
  · have HL := Lib.hid h
    rw [← h]
    clear h
    have hyl : ∀ k, k < xs.length → k < ys.length := fun k hk => by have := HL.out; omega
    have HY := Lib.hid hyl
    clear hyl hy
    go_enter Try.func70, Try.ntmps70
    go_wp2_with fail
    go_loopw [13] (fun i wr => ∃ k : Nat, k ≤ xs.length ∧ i = .int .i64 k ∧ Hid (xs.take k = ys.take k) ∧ Below w.heap.size w wr) (fun i _ => xs.length - (intOf i).toNat)
    case atStart => exact ⟨0, Nat.zero_le _, rfl, rfl, Below.refl _ _⟩
    case round =>
      obtain ⟨k, hk, rfl, ht, hb⟩ := hrel
      by_cases hlt : k < xs.length
      · obtain ⟨g, o, rfl, e1⟩ := (hA.below hb).at_ k hlt
        obtain ⟨g', o', rfl, e2⟩ := (hB.below hb).at_ k (HY.out k hlt)
        by_cases he : xs[k] = ys[k]'(HY.out k hlt)
        · have HT : Hid (xs.take (k + 1) = ys.take (k + 1)) := Lib.hid (take_eq hlt (HY.out k hlt) ht.out he)
          rw [← he] at e2
          clear he
          go_wp2_with fail
          go_quiet (fail)
          go_wp2_with fail
          go_roundw
          case rel => exact ⟨k + 1, by omega, by go_num, HT, bl_drewN hb _⟩
          case measure => simp [intOf]; omega
        · have HN := Lib.hid (sameI_at hlt (HY.out k hlt) he)
          generalize ys[k]'(HY.out k hlt) = v at *
          generalize xs[k] = u at *
          have hq : (u == v) = false := by simp [he]
          go_wp2_with fail
          go_quiet (fail)
          go_wp2_with fail
          go_ret
          exact ⟨(ret_bool HN.out).symm, bl_drewN hb _⟩
      · obtain rfl : k = xs.length := by omega
        have HN := Lib.hid (sameI_t HL.out ht.out)
        go_wp2_with fail
        go_ret
        exact ⟨(ret_bool HN.out).symm, hb⟩
  · have HN := Lib.hid (sameI_len h)
    go_enter Try.func70, Try.ntmps70
    go_wp2_with fail
    go_ret
    exact ⟨(ret_bool HN.out).symm, Below.refl _ _⟩
def sameFd (r s : Int) (xs : List Int) (r' s' : Int) (ys : List Int) : Bool := decide (r = r') && (decide (s = s') && sameI xs ys)
theorem specSameF_any (r s r' s' : Int) (A B : Option Addr) (c d : Nat) (xs ys : List Int) (w : World) (hA : RdI w A xs) (hB : RdI w B ys) (hx : xs.length ≤ 1048576) (hy : ys.length ≤ 1048576) :
    Calls Try.prog 35 #[.agg #[.int .i64 r, .int .i64 s, .slice A xs.length c], .agg #[.int .i64 r', .int .i64 s', .slice B ys.length d]] w fun e w' => e = .returned (.bool (sameFd r s xs r' s' ys)) ∧ Below w.heap.size w w' := by
  have hb := bl_alloc (bl_alloc (Below.refl w.heap.size w) (.cells #[.int .i64 r, .int .i64 s, .slice A xs.length c] 44)) (.cells #[.int .i64 r', .int .i64 s', .slice B ys.length d] 44)
  have HA := Lib.hid (hA.below hb)
  have HB := Lib.hid (hB.below hb)
  have HBb := Lib.hid hb
  clear hA hB hb
  by_cases h1 : r = r'
  · by_cases h2 : s = s'
    · have F : Hid (sameFd r s xs r' s' ys = sameI xs ys) := by show _ = _; unfold sameFd; rw [decide_eq_true h1, decide_eq_true h2]; rfl
      have q1 : (r == r') = true := by simp [h1]
      have q2 : (s == s') = true := by simp [h2]
      clear h1 h2
      go_enter Try.func35, Try.ntmps35
      go_wp2_with (go_at_call 68; refine (l00Same_any A B c d xs ys _ HA.out HB.out hx hy).mono ?_; rintro e w1 ⟨rfl, hb1⟩)
      go_ret
      exact ⟨(ret_bool F.out).symm, bl_trans HBb.out hb1⟩
    · have F : Hid (sameFd r s xs r' s' ys = false) := by show _ = _; unfold sameFd; rw [decide_eq_false h2]; simp
      have q1 : (r == r') = true := by simp [h1]
      have q2 : (s == s') = false := by simp [h2]
      clear h1 h2
      go_enter Try.func35, Try.ntmps35
      go_wp2_with fail
      go_ret
      exact ⟨(ret_bool F.out).symm, HBb.out⟩
  · have F : Hid (sameFd r s xs r' s' ys = false) := by show _ = _; unfold sameFd; rw [decide_eq_false h1]; rfl
    have q1 : (r == r') = false := by simp [h1]
    clear h1
    go_enter Try.func35, Try.ntmps35
    go_wp2_with fail
    go_ret
    exact ⟨(ret_bool F.out).symm, HBb.out⟩
theorem implSameF_any (r s r' s' : Int) (A B : Option Addr) (c d : Nat) (xs ys : List Int) (w : World) (hA : RdI w A xs) (hB : RdI w B ys) (hx : xs.length ≤ 1048576) (hy : ys.length ≤ 1048576) :
    Calls Try.prog 37 #[.agg #[.int .i64 r, .int .i64 s, .slice A xs.length c], .agg #[.int .i64 r', .int .i64 s', .slice B ys.length d]] w fun e w' => e = .returned (.bool (sameFd r s xs r' s' ys)) ∧ Below w.heap.size w w' := by
  have hb := bl_alloc (bl_alloc (Below.refl w.heap.size w) (.cells #[.int .i64 r, .int .i64 s, .slice A xs.length c] 44)) (.cells #[.int .i64 r', .int .i64 s', .slice B ys.length d] 44)
  have HA := Lib.hid (hA.below hb)
  have HB := Lib.hid (hB.below hb)
  have HBb := Lib.hid hb
  clear hA hB hb
  by_cases h1 : r = r'
  · by_cases h2 : s = s'
    · have F : Hid (sameFd r s xs r' s' ys = sameI xs ys) := by show _ = _; unfold sameFd; rw [decide_eq_true h1, decide_eq_true h2]; rfl
      have q1 : (r == r') = true := by simp [h1]
      have q2 : (s == s') = true := by simp [h2]
      clear h1 h2
      go_enter Try.func37, Try.ntmps37
      go_wp2_with (go_at_call 70; refine (equalI_any A B c d xs ys _ HA.out HB.out hx hy).mono ?_; rintro e w1 ⟨rfl, hb1⟩)
      go_ret
      exact ⟨(ret_bool F.out).symm, bl_trans HBb.out hb1⟩
    · have F : Hid (sameFd r s xs r' s' ys = false) := by show _ = _; unfold sameFd; rw [decide_eq_false h2]; simp
      have q1 : (r == r') = true := by simp [h1]
      have q2 : (s == s') = false := by simp [h2]
      clear h1 h2
      go_enter Try.func37, Try.ntmps37
      go_wp2_with fail
      go_ret
      exact ⟨(ret_bool F.out).symm, HBb.out⟩
  · have F : Hid (sameFd r s xs r' s' ys = false) := by show _ = _; unfold sameFd; rw [decide_eq_false h1]; rfl
    have q1 : (r == r') = false := by simp [h1]
    clear h1
    go_enter Try.func37, Try.ntmps37
    go_wp2_with fail
    go_ret
    exact ⟨(ret_bool F.out).symm, HBb.out⟩
end Go.Proofs.Ytnkmcejaemcfeaa
