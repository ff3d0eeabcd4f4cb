/- The law FnExactIsName holds: the program's IsName returns what the reference's returns, for every string. No condition. -/
import Derived.Test.YtclbbobcdegcbaaBase
namespace Go.Proofs.Ytclbbobcdegcbaa.fnExactIsName
open Go.ChangeShapes Go.WideShapes Go.ChangeAt Go.RowKit
open Go.ChangeMaps (open_string shut_string)
set_option linter.unusedVariables false
def nb (c : UInt8) : Bool := decide ((97 ≤ (c.toNat : Int) ∧ (c.toNat : Int) ≤ 122) ∨ (48 ≤ (c.toNat : Int) ∧ (c.toNat : Int) ≤ 57))
theorem nb_t {c : UInt8} (h : (97 ≤ (c.toNat : Int) ∧ (c.toNat : Int) ≤ 122) ∨ (48 ≤ (c.toNat : Int) ∧ (c.toNat : Int) ≤ 57)) : nb c = true := decide_eq_true h
theorem nb_f {c : UInt8} (h : ¬ ((97 ≤ (c.toNat : Int) ∧ (c.toNat : Int) ≤ 122) ∨ (48 ≤ (c.toNat : Int) ∧ (c.toNat : Int) ≤ 57))) : nb c = false := decide_eq_false h
theorem take_snoc (s : ByteArray) (k : Nat) (h : k < s.size) : s.data.toList.take (k + 1) = s.data.toList.take k ++ [s[k]] := by
  rw [List.take_succ_eq_append_getElem (by simpa using h)]; rfl
theorem all_snoc (s : ByteArray) (k : Nat) (h : k < s.size) (ha : (s.data.toList.take k).all nb = true) (hb : nb s[k] = true) : (s.data.toList.take (k + 1)).all nb = true := by
  rw [take_snoc s k h, List.all_append, ha]
  simp [hb]
def allNb (s : ByteArray) : Bool := s.data.toList.all nb
theorem all_bad (s : ByteArray) (k : Nat) (h : k < s.size) (hb : nb s[k] = false) : allNb s = false := by
  unfold allNb
  rw [List.all_eq_false]
  refine ⟨s[k], ?_, by simp [hb]⟩
  have : s.data.toList[k]'(by simpa using h) = s[k] := rfl
  rw [← this]
  exact List.getElem_mem _
def first (s : ByteArray) : Int := ((s.data.toList.headD 0).toNat : Int)
def isName (s : ByteArray) : Bool := decide (1 ≤ s.size ∧ s.size ≤ 10 ∧ 97 ≤ first s ∧ first s ≤ 122) && allNb s
theorem headD_eq (l : List UInt8) (h : 0 < l.length) : l.headD 0 = l[0] := by
  cases l with
  | nil => simp at h
  | cons c l => rfl
theorem first_eq (s : ByteArray) (h : 0 < s.size) : first s = (s[0].toNat : Int) := by
  have hl : 0 < s.data.toList.length := by simpa using h
  have h2 : s.data.toList.headD 0 = s[0] := (headD_eq _ hl).trans rfl
  unfold first
  rw [h2]
theorem isName_long {s : ByteArray} (h : s.size < 1 ∨ 10 < s.size) : isName s = false := by
  unfold isName
  rw [decide_eq_false (by omega)]
  rfl
theorem isName_first {s : ByteArray} (h : 0 < s.size) (hb : ¬ (97 ≤ (s[0].toNat : Int) ∧ (s[0].toNat : Int) ≤ 122)) : isName s = false := by
  rw [← first_eq s h] at hb
  unfold isName
  rw [decide_eq_false (by omega)]
  rfl
theorem isName_rest {s : ByteArray} (h1 : 0 < s.size) (h2 : s.size ≤ 10) (hb : 97 ≤ (s[0].toNat : Int) ∧ (s[0].toNat : Int) ≤ 122) : isName s = allNb s := by
  rw [← first_eq s h1] at hb
  unfold isName
  rw [decide_eq_true (by omega)]
  rfl
theorem only_any (s : ByteArray) (w : World) (hs : s.size ≤ maxLen) :
    Calls Try.prog 49 #[.string s] w fun e w' => e = .returned (.bool (allNb s)) ∧ w = w' := by
  unfold maxLen at hs
  go_enter Try.func49, Try.ntmps49
  go_wp2
  go_loop [7] (fun i => ∃ (k : Nat), k ≤ s.size ∧ i = .int .i64 k ∧ (s.data.toList.take k).all nb = true) (fun i => s.size - (intOf i).toNat)
  case atStart => exact ⟨0, Nat.zero_le _, rfl, by simp⟩
  case round =>
    obtain ⟨k, hk, rfl, ha⟩ := hrel
    have HA := Lib.hid ha
    clear ha
    by_cases hlt : k < s.size
    · by_cases h1 : (s[k].toNat : Int) < 97
      · by_cases h2 : (s[k].toNat : Int) < 48
        · have HB := Lib.hid (all_bad s k hlt (nb_f (by omega)))
          go_wp2
          go_ret
          exact ⟨(ret_bool HB.out).symm, rfl⟩
        · by_cases h3 : 57 < (s[k].toNat : Int)
          · have HB := Lib.hid (all_bad s k hlt (nb_f (by omega)))
            go_wp2
            go_ret
            exact ⟨(ret_bool HB.out).symm, rfl⟩
          · have HB := Lib.hid (all_snoc s k hlt HA.out (nb_t (by omega)))
            go_wp2
            go_round
            case rel => exact ⟨k + 1, by omega, by go_num, HB.out⟩
            case measure => simp [intOf]; omega
      · by_cases h2 : 122 < (s[k].toNat : Int)
        · have HB := Lib.hid (all_bad s k hlt (nb_f (by omega)))
          go_wp2
          go_ret
          exact ⟨(ret_bool HB.out).symm, rfl⟩
        · have HB := Lib.hid (all_snoc s k hlt HA.out (nb_t (by omega)))
          go_wp2
          go_round
          case rel => exact ⟨k + 1, by omega, by go_num, HB.out⟩
          case measure => simp [intOf]; omega
    · obtain rfl : k = s.size := by omega
      have HB : Hid (allNb s = true) := by
        unfold Hid allNb
        have := HA.out
        rwa [List.take_of_length_le (by simp)] at this
      go_wp2
      go_ret
      exact ⟨(ret_bool HB.out).symm, rfl⟩
theorem small_any (c : Int) (w : World) : Calls Try.prog 52 #[.int .u8 c] w fun e w' => e = .returned (.bool (inB c 97 122)) ∧ w = w' := by
  by_cases h1 : 97 ≤ c
  · by_cases h2 : c ≤ 122
    · go_enter Try.func52, Try.ntmps52
      go_wp2
      go_ret
      exact ⟨(ret_bool (inB_t h1 h2)).symm, rfl⟩
    · go_enter Try.func52, Try.ntmps52
      go_wp2
      go_ret
      exact ⟨(ret_bool (inB_f (by omega))).symm, rfl⟩
  · go_enter Try.func52, Try.ntmps52
    go_wp2
    go_ret
    exact ⟨(ret_bool (inB_f (by omega))).symm, rfl⟩
theorem digit_any (c : Int) (w : World) : Calls Try.prog 53 #[.int .u8 c] w fun e w' => e = .returned (.bool (inB c 48 57)) ∧ w = w' := by
  by_cases h1 : 48 ≤ c
  · by_cases h2 : c ≤ 57
    · go_enter Try.func53, Try.ntmps53
      go_wp2
      go_ret
      exact ⟨(ret_bool (inB_t h1 h2)).symm, rfl⟩
    · go_enter Try.func53, Try.ntmps53
      go_wp2
      go_ret
      exact ⟨(ret_bool (inB_f (by omega))).symm, rfl⟩
  · go_enter Try.func53, Try.ntmps53
    go_wp2
    go_ret
    exact ⟨(ret_bool (inB_f (by omega))).symm, rfl⟩
theorem empty_of_size {s : ByteArray} (h : s.size = 0) : s = ByteArray.empty := by
  obtain ⟨d⟩ := s
  have : d = #[] := Array.eq_empty_of_size_eq_zero h
  subst this
  rfl
theorem toList_ne {s : ByteArray} (h : 0 < s.size) : s.toList.isEmpty = false := by
  rw [List.isEmpty_eq_false_iff]
  intro hn
  rw [toList_nil_iff_emptyBytes] at hn
  subst hn
  exact absurd h (by decide)
theorem toList_nil {s : ByteArray} (h : s.size = 0) : s.toList.isEmpty = true := by
  rw [List.isEmpty_iff, toList_nil_iff_emptyBytes]
  exact empty_of_size h
theorem name_any (s : ByteArray) (w : World) (hs : s.size ≤ maxLen) :
    Calls Try.prog 48 #[.string s] w fun e w' => e = .returned (.bool (isName s)) ∧ w = w' := by
  unfold maxLen at hs
  rcases Nat.eq_zero_or_pos s.size with h0 | h0
  · have F := Lib.hid (isName_long (s := s) (by omega))
    have he := toList_nil h0
    have H0 := Lib.hid h0
    clear h0
    go_enter Try.func48, Try.ntmps48
    go_wp2_with (first | (go_at_call 52; refine (small_any _ _).mono ?_; rintro e w' ⟨rfl, rfl⟩) | (go_at_call 53; refine (digit_any _ _).mono ?_; rintro e w' ⟨rfl, rfl⟩))
    go_ret
    exact ⟨(ret_bool F.out).symm, rfl⟩
  have he := toList_ne h0
  have hne : ¬ s.toList = [] := by rw [← List.isEmpty_iff, he]; decide
  by_cases h1 : 10 < s.size
  · have F := Lib.hid (isName_long (s := s) (by omega))
    go_enter Try.func48, Try.ntmps48
    go_wp2_with (first | (go_at_call 52; refine (small_any _ _).mono ?_; rintro e w' ⟨rfl, rfl⟩) | (go_at_call 53; refine (digit_any _ _).mono ?_; rintro e w' ⟨rfl, rfl⟩))
    go_ret
    exact ⟨(ret_bool F.out).symm, rfl⟩
  rcases h2 : inB (s[0].toNat : Int) 97 122 with _ | _
  · have F := Lib.hid (isName_first h0 (by have := inB_no h2; omega))
    go_enter Try.func48, Try.ntmps48
    go_wp2_with (first | (go_at_call 52; refine (small_any _ _).mono ?_; rintro e w' ⟨rfl, rfl⟩) | (go_at_call 53; refine (digit_any _ _).mono ?_; rintro e w' ⟨rfl, rfl⟩))
    go_ret
    exact ⟨(ret_bool F.out).symm, rfl⟩
  have F := Lib.hid (isName_rest h0 (by omega) (inB_yes h2))
  go_enter Try.func48, Try.ntmps48
  go_wp2_with (first | (go_at_call 52; refine (small_any _ _).mono ?_; rintro e w' ⟨rfl, rfl⟩) | (go_at_call 53; refine (digit_any _ _).mono ?_; rintro e w' ⟨rfl, rfl⟩))
  clear h2
  go_loop [3] (fun i => ∃ (k : Nat), k ≤ s.size ∧ i = .int .i64 k ∧ (s.data.toList.take k).all nb = true) (fun i => s.size - (intOf i).toNat)
  case atStart => exact ⟨0, Nat.zero_le _, rfl, by simp⟩
  case round =>
    obtain ⟨k, hk, rfl, ha⟩ := hrel
    have HA := Lib.hid ha
    clear ha he hne
    by_cases hlt : k < s.size
    · rcases h1 : inB (s[k].toNat : Int) 97 122 with _ | _
      · rcases h2 : inB (s[k].toNat : Int) 48 57 with _ | _
        · have HB := Lib.hid (all_bad s k hlt (nb_f (by have := inB_no h1; have := inB_no h2; omega)))
          go_wp2_with (first | (go_at_call 52; refine (small_any _ _).mono ?_; rintro e w' ⟨rfl, rfl⟩) | (go_at_call 53; refine (digit_any _ _).mono ?_; rintro e w' ⟨rfl, rfl⟩))
          go_ret
          exact ⟨(ret_bool (F.out.trans HB.out)).symm, rfl⟩
        · have HB := Lib.hid (all_snoc s k hlt HA.out (nb_t (by have := inB_yes h2; omega)))
          go_wp2_with (first | (go_at_call 52; refine (small_any _ _).mono ?_; rintro e w' ⟨rfl, rfl⟩) | (go_at_call 53; refine (digit_any _ _).mono ?_; rintro e w' ⟨rfl, rfl⟩))
          go_round
          case rel => exact ⟨k + 1, by omega, by go_num, HB.out⟩
          case measure => simp [intOf]; omega
      · have HB := Lib.hid (all_snoc s k hlt HA.out (nb_t (by have := inB_yes h1; omega)))
        go_wp2_with (first | (go_at_call 52; refine (small_any _ _).mono ?_; rintro e w' ⟨rfl, rfl⟩) | (go_at_call 53; refine (digit_any _ _).mono ?_; rintro e w' ⟨rfl, rfl⟩))
        go_round
        case rel => exact ⟨k + 1, by omega, by go_num, HB.out⟩
        case measure => simp [intOf]; omega
    · obtain rfl : k = s.size := by omega
      have HB : Hid (allNb s = true) := by
        unfold Hid allNb
        have := HA.out
        rwa [List.take_of_length_le (by simp)] at this
      go_wp2_with (first | (go_at_call 52; refine (small_any _ _).mono ?_; rintro e w' ⟨rfl, rfl⟩) | (go_at_call 53; refine (digit_any _ _).mono ?_; rintro e w' ⟨rfl, rfl⟩))
      go_ret
      exact ⟨(ret_bool (F.out.trans HB.out)).symm, rfl⟩
theorem spec_any (s : ByteArray) (w : World) (hs : s.size ≤ maxLen) :
    Calls Try.prog 32 #[.string s] w fun e w' => e = .returned (.bool (isName s)) ∧ w = w' := by
  go_enter Try.func32, Try.ntmps32
  go_wp2_with (go_at_call 48; refine (name_any _ _ hs).mono ?_; rintro e w' ⟨rfl, rfl⟩)
  go_ret
  exact ⟨rfl, rfl⟩
theorem impl_any (s : ByteArray) (w : World) (hs : s.size ≤ maxLen) :
    Calls Try.prog 33 #[.string s] w fun e w' => e = .returned (.bool (isName s)) ∧ w = w' := by
  by_cases h0 : s.size < 1
  · have F := Lib.hid (isName_long (s := s) (by omega))
    unfold maxLen at hs
    go_enter Try.func33, Try.ntmps33
    go_wp2_with (fail)
    go_ret
    exact ⟨(ret_bool F.out).symm, rfl⟩
  have h00 : 0 < s.size := by omega
  by_cases h1 : 10 < s.size
  · have F := Lib.hid (isName_long (s := s) (by omega))
    unfold maxLen at hs
    go_enter Try.func33, Try.ntmps33
    go_wp2_with (fail)
    go_ret
    exact ⟨(ret_bool F.out).symm, rfl⟩
  by_cases h2 : (s[0].toNat : Int) < 97
  · have F := Lib.hid (isName_first h00 (by omega))
    unfold maxLen at hs
    go_enter Try.func33, Try.ntmps33
    go_wp2_with (fail)
    go_ret
    exact ⟨(ret_bool F.out).symm, rfl⟩
  by_cases h3 : 122 < (s[0].toNat : Int)
  · have F := Lib.hid (isName_first h00 (by omega))
    unfold maxLen at hs
    go_enter Try.func33, Try.ntmps33
    go_wp2_with (fail)
    go_ret
    exact ⟨(ret_bool F.out).symm, rfl⟩
  have F := Lib.hid (isName_rest h00 (by omega) (by omega))
  go_enter Try.func33, Try.ntmps33
  go_wp2_with (go_at_call 49; refine (only_any _ _ hs).mono ?_; rintro e w' ⟨rfl, rfl⟩)
  go_ret
  exact ⟨(ret_bool F.out).symm, rfl⟩
theorem walk (a0 : ByteArray) (w0 : a0.size ≤ maxLen) (w : World) :
    Calls Try.prog 12 #[.string a0] w fun e w' => e = .returned (.bool true) ∧ Below w.heap.size w w' := by
  by_cases hb : 1048576 < a0.size
  · go_enter Try.func12, Try.ntmps12
    go_wp2
    go_ret
    exact ⟨rfl, Below.refl _ _⟩
  · go_enter Try.func12, Try.ntmps12
    go_wp2_with (first | (go_at_call 32; refine (spec_any _ _ w0).mono ?_; rintro e w' ⟨rfl, rfl⟩) | (go_at_call 33; refine (impl_any _ _ w0).mono ?_; rintro e w' ⟨rfl, rfl⟩))
    go_ret
    exact ⟨rfl, Below.refl _ _⟩
theorem own : ownKnob Try.prog.godebug = none := by kernel_rfl
theorem laidOut : laidOutB Try.prog = true := by kernel_rfl
set_option maxRecDepth 100000 in
theorem lifted (os : Os) (started : os.Started) (H : Type) (enc : TypeId × Value → H) :
    ReturnsInHanded {} Try.checked os 12 .any (Rows.fnExactIsNameSpec.pre6 enc Try.prog Try.f12 Rows.fnExactIsNameRow.domain false) (Rows.fnExactIsNameSpec.post enc Try.prog Try.f12 false true false false) := by
  refine returnsInHanded_of_change (C := Try.checked) own started (by kernel_rfl) Try.func12
    (ChangeSpec.witness6 (enc := enc) (C := Try.checked) false ⟨#[], #[.string ⟨#[]⟩], []⟩ 8 (by kernel_rfl) (by kernel_rfl) (by kernel_rfl) (by kernel_rfl)) ?_
  intro W base args ds gs before hval0 hW hcnd _
  have hval : ∀ (j : Nat) t v, Try.f12.params[j]? = some t → args[j]? = some v → Value.okWide Try.prog W .any base t v := hval0
  have hW' := hW
  obtain ⟨p, q, hA0, hV, rfl, hfz, hnd⟩ := hW
  have hA : DataW.TrodAll enc Try.prog W 0 (fun _ => true) true Try.f12.params.toList args.toList ds p := hA0
  rw [Try.params12] at hA hval
  obtain ⟨v0, vs0, d0, ds0, p0, q0, hargs, rfl, rfl, h0, r0⟩ := trodAll_cons hA
  obtain ⟨rfl, rfl, rfl⟩ := trodAll_nil r0
  obtain rfl : args = #[v0] := by cases args; simp_all
  obtain ⟨rfl, rfl⟩ := trodVars_none hV
  obtain ⟨a0, rfl, rfl, rfl, w0⟩ := open_string Try.underlying9 (hval 0 9 v0 rfl rfl) h0
  clear hA0 hval0
  refine (walk a0 w0 W).mono fun e W' ⟨he, bel⟩ => ?_
  subst he
  exact ⟨_, rfl, _, _, _, [], _, [], hW', trodAll_mk1 (shut_bool Try.underlying4 _), (trodAll_cons_mk (shut_string Try.underlying9 w0) trodAll_mk0), rfl, bel.frame _, fun h => by cases h⟩
theorem over : Rows.fnExactIsNameRow.holds Try.pinned (OpenSpec.ofChange Rows.fnExactIsNameSpec) :=
  OpenClaim.holds_of_wide 12 Try.f12 rfl rfl rfl rfl rfl rfl rfl ⟨rfl, rfl, rfl, rfl, rfl⟩ rfl rfl rfl rfl rfl (by kernel_rfl) Try.func12 (by kernel_rfl)
    (of_decide_eq_true (by kernel_rfl)) (by unfold Func.isWrapper; first | (rw [if_pos (by decide +kernel)]; kernel_rfl) | (rw [if_neg (by decide +kernel)]; exact ⟨rfl, rfl⟩))
    (fun os started H enc _ => lifted os started H enc)
theorem proved : Rows.FnExactIsNameSaid := over
#print axioms proved
end Go.Proofs.Ytclbbobcdegcbaa.fnExactIsName
