/- A text read as a number: the contract of the reference's l01Number. No condition. -/
import Derived.Test.YtcpdipopajhajaaDoorNumP
namespace Go.Proofs.YtcpdipopajhajaaDoor
open Go.ChangeShapes Go.WideShapes Go.ChangeAt Go.RowKit
set_option linter.unusedVariables false
def rnV (l : List UInt8) : Int := if numB l then numV l else 0
theorem rn_t {l : List UInt8} (h : numB l = true) : rnV l = numV l := by unfold rnV; rw [if_pos h]
theorem rn_f {l : List UInt8} (h : numB l = false) : rnV l = 0 := by unfold rnV; rw [h]; rfl
theorem numB_no {l : List UInt8} (h : bodyL l = [] ∨ 18 < (bodyL l).length ∨ ((bodyL l).head? = some 48 ∧ 1 < l.length) ∨ allD (bodyL l) = false) : numB l = false := by
  cases e : numB l
  · rfl
  · obtain ⟨a, b, c, d⟩ := numB_yes e
    rcases h with h | h | h | h
    · exact absurd h a
    · omega
    · exact absurd h c
    · rw [h] at d; cases d
/-- The bytes of s from a to k. -/
def seg (s : ByteArray) (a k : Nat) : List UInt8 := (s.data.toList.take k).drop a
theorem lst_len (s : ByteArray) : s.data.toList.length = s.size := by simp
theorem seg_0 (s : ByteArray) (a : Nat) : seg s a a = [] := by
  unfold seg
  rw [List.drop_eq_nil_iff, List.length_take]
  omega
theorem seg_len (s : ByteArray) (a k : Nat) (hk : k ≤ s.size) : (seg s a k).length = k - a := by
  unfold seg
  rw [List.length_drop, List.length_take]
  have : s.data.toList.length = s.size := by simp
  omega
theorem seg_s (s : ByteArray) (a k : Nat) (ha : a ≤ k) (hk : k < s.size) : seg s a (k + 1) = seg s a k ++ [s[k]] := by
  unfold seg
  rw [take_snoc s k hk, List.drop_append]
  have : (s.data.toList.take k).length = k := by rw [List.length_take, lst_len]; omega
  rw [this, show a - k = 0 from by omega]
  rfl
theorem seg_all (s : ByteArray) (a : Nat) : seg s a s.size = s.data.toList.drop a := by unfold seg; rw [take_all]
theorem head_s (s : ByteArray) (h : 0 < s.size) : s.data.toList.head? = some s[0] := by
  rw [List.head?_eq_getElem?, List.getElem?_eq_getElem (by simpa using h)]
  rfl
theorem byte_eq {b c : UInt8} (h : (b.toNat : Int) = (c.toNat : Int)) : b = c := UInt8.toNat_inj.1 (by omega)
theorem drop1_head (s : ByteArray) (h : 1 < s.size) : (s.data.toList.drop 1).head? = some s[1] := by
  rw [List.head?_drop, List.getElem?_eq_getElem (by simpa using h)]
  rfl
theorem body_neg (s : ByteArray) (h : 0 < s.size) (h45 : (s[0].toNat : Int) = 45) : s.data.toList.head? = some 45 ∧ bodyL s.data.toList = seg s 1 s.size := by
  have e : s[0] = 45 := byte_eq h45
  have hh := head_s s h
  rw [e] at hh
  refine ⟨hh, ?_⟩
  unfold bodyL
  rw [if_pos hh, seg_all, List.drop_one]
theorem body_pos (s : ByteArray) (h : 0 < s.size) (h45 : ¬ (s[0].toNat : Int) = 45) : ¬ s.data.toList.head? = some 45 ∧ bodyL s.data.toList = seg s 0 s.size := by
  have hh := head_s s h
  have hn : ¬ s.data.toList.head? = some 45 := by
    rw [hh]
    intro e
    injection e with e
    rw [e] at h45
    exact h45 rfl
  refine ⟨hn, ?_⟩
  rw [body_p hn, seg_all]
  rfl
theorem seg_digit_bad (s : ByteArray) (a k : Nat) (ha : a ≤ k) (hk : k < s.size) (h : isD s[k] = false) : allD (seg s a s.size) = false := by
  have hm : s[k] ∈ seg s a s.size := by
    rw [seg_all]
    rw [List.mem_iff_getElem?]
    refine ⟨k - a, ?_⟩
    rw [List.getElem?_drop, show a + (k - a) = k from by omega, List.getElem?_eq_getElem (by simpa using hk)]
    rfl
  cases e : allD (seg s a s.size)
  · rfl
  · have := List.all_eq_true.1 e _ hm
    rw [h] at this
    cases this
theorem seg_allD_s (s : ByteArray) (a k : Nat) (ha : a ≤ k) (hk : k < s.size) (h : allD (seg s a k) = true) (hd : isD s[k] = true) : allD (seg s a (k + 1)) = true := by
  rw [seg_s s a k ha hk, allD_app, h]
  simp [allD, hd]
theorem seg_val_s (s : ByteArray) (a k : Nat) (ha : a ≤ k) (hk : k < s.size) : digV (seg s a (k + 1)) = 10 * digV (seg s a k) + ((s[k].toNat : Int) - 48) := by
  rw [seg_s s a k ha hk, digV_snoc]
theorem seg_bd (s : ByteArray) (a k : Nat) (hk : k ≤ s.size) (h : allD (seg s a k) = true) (hl : k - a ≤ 17) : 0 ≤ digV (seg s a k) ∧ digV (seg s a k) < 100000000000000000 := by
  obtain ⟨_, h1, h2⟩ := dig_bd (seg s a k) h (k - a) (seg_len s a k hk) (by omega)
  have hp : 10 ^ (k - a) ≤ 10 ^ 17 := Nat.pow_le_pow_right (by omega) hl
  have e17 : (10 : Nat) ^ 17 = 100000000000000000 := by decide
  exact ⟨h1, by omega⟩
theorem seg_bd18 (s : ByteArray) (a k : Nat) (hk : k ≤ s.size) (h : allD (seg s a k) = true) (hl : k - a ≤ 18) : 0 ≤ digV (seg s a k) ∧ digV (seg s a k) < 1000000000000000000 := by
  obtain ⟨h1, _, h2⟩ := d_bd (l := seg s a k) h (by rw [seg_len s a k hk]; exact hl)
  exact ⟨h1, h2⟩
theorem ret_nb {a b : Int} {c d : Bool} (h : a = b) (k : c = d) : Ending.returned (.tuple #[.int .i64 a, .bool c]) = .returned (.tuple #[.int .i64 b, .bool d]) := by rw [h, k]
theorem rn_no {l : List UInt8} (h : numB l = false) : rnV l = 0 ∧ numB l = false := ⟨rn_f h, h⟩
theorem rn_yes {l : List UInt8} (h : numB l = true) : rnV l = numV l ∧ numB l = true := ⟨rn_t h, h⟩
set_option maxHeartbeats 2000000 in
theorem l01Number_any (s : ByteArray) (w : World) (hs : s.size ≤ maxLen) : Calls Tryd.prog 32 #[.string s] w fun e w' => e = .returned (.tuple #[.int .i64 (rnV s.data.toList), .bool (numB s.data.toList)]) ∧ w = w' := by
  unfold maxLen at hs
  by_cases h0 : s.size = 0
  · have F := Lib.hid (rn_no (numB_no (l := s.data.toList) (.inl (by rw [show s.data.toList = [] from List.length_eq_zero_iff.1 (by rw [lst_len]; exact h0)]; rfl))))
    have z0 : decide ((0 : Int) < (s.size : Int)) = false := decide_eq_false (by omega)
    have z1 : ((s.size : Int) == 0) = true := beq_iff_eq.2 (by omega)
    clear h0
    go_enter Tryd.func32, Tryd.ntmps32
    go_wp2_with fail
    go_ret2
    exact ⟨(ret_nb F.out.1 F.out.2).symm, rfl⟩
  have hp : 0 < s.size := by omega
  have z0 : decide ((0 : Int) < (s.size : Int)) = true := decide_eq_true (by omega)
  have z1 : ((s.size : Int) == 0) = false := by rw [beq_eq_false_iff_ne]; omega
  clear h0
  by_cases h45 : (s[0].toNat : Int) = 45
  · obtain ⟨hh, hbody⟩ := body_neg s hp h45
    have t45 : ((s[0].toNat : Int) == 45) = true := by rw [beq_iff_eq]; exact h45
    have HB := Lib.hid hbody
    have HH := Lib.hid hh
    clear hbody hh h45
    by_cases h1 : s.size = 1
    · have F := Lib.hid (rn_no (numB_no (l := s.data.toList) (.inl (by rw [HB.out]; have := seg_len s 1 s.size (Nat.le_refl _); exact List.length_eq_zero_iff.1 (by omega)))))
      have z2 : ((s.size : Int) == 1) = true := by rw [beq_iff_eq]; omega
      clear h1
      go_enter Tryd.func32, Tryd.ntmps32
      go_wp2_with fail
      go_ret2
      exact ⟨(ret_nb F.out.1 F.out.2).symm, rfl⟩
    have z2 : ((s.size : Int) == 1) = false := by rw [beq_eq_false_iff_ne]; omega
    by_cases h18 : 19 < s.size
    · have F := Lib.hid (rn_no (numB_no (l := s.data.toList) (.inr (.inl (by rw [HB.out, seg_len s 1 s.size (Nat.le_refl _)]; omega)))))
      have z3 : decide ((18 : Int) < (s.size : Int) - 1) = true := decide_eq_true (by omega)
      clear h1 h18
      go_enter Tryd.func32, Tryd.ntmps32
      go_wp2_with fail
      go_ret2
      exact ⟨(ret_nb F.out.1 F.out.2).symm, rfl⟩
    have z3 : decide ((18 : Int) < (s.size : Int) - 1) = false := decide_eq_false (by omega)
    have h2 : 1 < s.size := by omega
    have h19 : s.size ≤ 19 := by omega
    have z4 : decide ((1 : Int) < (s.size : Int)) = true := decide_eq_true (by omega)
    clear h1 h18
    by_cases h48 : (s[1].toNat : Int) = 48
    · have F := Lib.hid (rn_no (numB_no (l := s.data.toList) (.inr (.inr (.inl ⟨by rw [HB.out, seg_all, drop1_head s h2]; exact congrArg some (byte_eq h48), by rw [lst_len]; omega⟩)))))
      have t48 : ((s[1].toNat : Int) == 48) = true := by rw [beq_iff_eq]; exact h48
      clear h48
      go_enter Tryd.func32, Tryd.ntmps32
      go_wp2_with fail
      go_ret2
      exact ⟨(ret_nb F.out.1 F.out.2).symm, rfl⟩
    have t48 : ((s[1].toNat : Int) == 48) = false := by rw [beq_eq_false_iff_ne]; exact h48
    have H48 := Lib.hid h48
    clear h48
    go_enter Tryd.func32, Tryd.ntmps32
    go_wp2_with fail
    go_loop [5, 6] (fun n i => ∃ k : Nat, 1 ≤ k ∧ k ≤ s.size ∧ i = .int .i64 k ∧ n = .int .i64 (digV (seg s 1 k)) ∧ Hid (allD (seg s 1 k) = true)) (fun _ i => s.size - (intOf i).toNat)
    case atStart => exact ⟨1, Nat.le_refl _, by omega, rfl, by rw [seg_0]; rfl, by show _ = _; rw [seg_0]; rfl⟩
    case round =>
      obtain ⟨k, hk1, hk, rfl, rfl, ha⟩ := hrel
      by_cases hlt : k < s.size
      · rcases hd : inB (s[k].toNat : Int) 48 57 with _ | _
        · have F := Lib.hid (rn_no (numB_no (l := s.data.toList) (.inr (.inr (.inr (by rw [HB.out]; exact seg_digit_bad s 1 k hk1 hlt (isD_f (by have := inB_no hd; omega))))))))
          go_wp2_with (go_at_call 53; refine (digit_any _ _).mono ?_; rintro e w' ⟨rfl, rfl⟩)
          go_ret2
          exact ⟨(ret_nb F.out.1 F.out.2).symm, rfl⟩
        · obtain ⟨d1, d2⟩ := inB_yes hd
          have HA := Lib.hid (seg_allD_s s 1 k hk1 hlt ha.out (isD_t ⟨d1, d2⟩))
          have HV := Lib.hid (seg_val_s s 1 k hk1 hlt)
          obtain ⟨b0, b1⟩ := seg_bd s 1 k hk ha.out (by omega)
          generalize digV (seg s 1 k) = n at *
          go_wp2_with (go_at_call 53; refine (digit_any _ _).mono ?_; rintro e w' ⟨rfl, rfl⟩)
          go_round
          case rel => exact ⟨k + 1, by omega, by omega, by go_num, val_i64 HV.out.symm, HA⟩
          case measure => simp [intOf]; omega
      · obtain rfl : k = s.size := by omega
        have F := Lib.hid (rn_yes (numB_mk (l := s.data.toList) (by rw [HB.out]; intro e; have := seg_len s 1 s.size (Nat.le_refl _); rw [e] at this; simp at this; omega) (by rw [HB.out, seg_len s 1 s.size (Nat.le_refl _)]; omega)
          (by rw [HB.out, seg_all, drop1_head s h2]; exact fun e => H48.out (by have := e.1; injection this with this; rw [this]; rfl)) (by rw [HB.out]; exact ha.out)))
        have FV : Hid (numV s.data.toList = -digV (seg s 1 s.size)) := by show _ = _; unfold numV; rw [if_pos HH.out, HB.out]
        obtain ⟨b0, b1⟩ := seg_bd18 s 1 s.size (Nat.le_refl _) ha.out (by omega)
        generalize digV (seg s 1 s.size) = n at *
        go_wp2_with fail
        go_ret2
        exact ⟨(ret_nb (F.out.1.trans FV.out) F.out.2).symm, rfl⟩
  · obtain ⟨hh, hbody⟩ := body_pos s hp h45
    have t45 : ((s[0].toNat : Int) == 45) = false := by rw [beq_eq_false_iff_ne]; exact h45
    have HB := Lib.hid hbody
    have HH := Lib.hid hh
    clear hbody hh h45
    by_cases h18 : 18 < s.size
    · have F := Lib.hid (rn_no (numB_no (l := s.data.toList) (.inr (.inl (by rw [HB.out, seg_len s 0 s.size (Nat.le_refl _)]; omega)))))
      have z3 : decide ((18 : Int) < (s.size : Int)) = true := decide_eq_true (by omega)
      clear h18
      go_enter Tryd.func32, Tryd.ntmps32
      go_wp2_with fail
      go_ret2
      exact ⟨(ret_nb F.out.1 F.out.2).symm, rfl⟩
    have z3 : decide ((18 : Int) < (s.size : Int)) = false := decide_eq_false (by omega)
    have h19 : s.size ≤ 18 := by omega
    clear h18
    by_cases h48 : (s[0].toNat : Int) = 48 ∧ 1 < s.size
    · have F := Lib.hid (rn_no (numB_no (l := s.data.toList) (.inr (.inr (.inl ⟨by rw [HB.out, seg_all, List.drop_zero, head_s s hp]; exact congrArg some (byte_eq h48.1), by rw [lst_len]; omega⟩)))))
      have t48 : ((s[0].toNat : Int) == 48) = true := by rw [beq_iff_eq]; exact h48.1
      have z4 : decide ((1 : Int) < (s.size : Int)) = true := decide_eq_true (by omega)
      clear h48
      go_enter Tryd.func32, Tryd.ntmps32
      go_wp2_with fail
      go_ret2
      exact ⟨(ret_nb F.out.1 F.out.2).symm, rfl⟩
    have H48 := Lib.hid h48
    have tt : (((s[0].toNat : Int) == 48) = true ∧ decide ((1 : Int) < (s.size : Int)) = false) ∨ ((s[0].toNat : Int) == 48) = false := by
      by_cases e : (s[0].toNat : Int) = 48
      · exact .inl ⟨by rw [beq_iff_eq]; exact e, by simp; have := fun k => h48 ⟨e, k⟩; omega⟩
      · exact .inr (by rw [beq_eq_false_iff_ne]; exact e)
    clear h48
    rcases tt with ⟨t48, z4⟩ | t48
    all_goals
      go_enter Tryd.func32, Tryd.ntmps32
      go_wp2_with fail
      go_loop [5, 6] (fun n i => ∃ k : Nat, 0 ≤ k ∧ k ≤ s.size ∧ i = .int .i64 k ∧ n = .int .i64 (digV (seg s 0 k)) ∧ Hid (allD (seg s 0 k) = true)) (fun _ i => s.size - (intOf i).toNat)
      case atStart => exact ⟨0, Nat.le_refl _, by omega, rfl, by rw [seg_0]; rfl, by show _ = _; rw [seg_0]; rfl⟩
      case round =>
        obtain ⟨k, hk1, hk, rfl, rfl, ha⟩ := hrel
        by_cases hlt : k < s.size
        · rcases hd : inB (s[k].toNat : Int) 48 57 with _ | _
          · have F := Lib.hid (rn_no (numB_no (l := s.data.toList) (.inr (.inr (.inr (by rw [HB.out]; exact seg_digit_bad s 0 k hk1 hlt (isD_f (by have := inB_no hd; omega))))))))
            go_wp2_with (go_at_call 53; refine (digit_any _ _).mono ?_; rintro e w' ⟨rfl, rfl⟩)
            go_ret2
            exact ⟨(ret_nb F.out.1 F.out.2).symm, rfl⟩
          · obtain ⟨d1, d2⟩ := inB_yes hd
            have HA := Lib.hid (seg_allD_s s 0 k hk1 hlt ha.out (isD_t ⟨d1, d2⟩))
            have HV := Lib.hid (seg_val_s s 0 k hk1 hlt)
            obtain ⟨b0, b1⟩ := seg_bd s 0 k hk ha.out (by omega)
            generalize digV (seg s 0 k) = n at *
            go_wp2_with (go_at_call 53; refine (digit_any _ _).mono ?_; rintro e w' ⟨rfl, rfl⟩)
            go_round
            case rel => exact ⟨k + 1, by omega, by omega, by go_num, val_i64 HV.out.symm, HA⟩
            case measure => simp [intOf]; omega
        · obtain rfl : k = s.size := by omega
          have F := Lib.hid (rn_yes (numB_mk (l := s.data.toList) (by rw [HB.out]; intro e; have := seg_len s 0 s.size (Nat.le_refl _); rw [e] at this; simp at this; omega) (by rw [HB.out, seg_len s 0 s.size (Nat.le_refl _)]; omega)
            (by rw [HB.out, seg_all, List.drop_zero, head_s s hp]; exact fun e => H48.out ⟨by have := e.1; injection this with this; rw [this]; rfl, by have := e.2; simpa using this⟩) (by rw [HB.out]; exact ha.out)))
          have FV : Hid (numV s.data.toList = digV (seg s 0 s.size)) := by show _ = _; unfold numV; rw [if_neg HH.out, HB.out]
          generalize digV (seg s 0 s.size) = n at *
          go_wp2_with fail
          go_ret2
          exact ⟨(ret_nb (F.out.1.trans FV.out) F.out.2).symm, rfl⟩
end Go.Proofs.YtcpdipopajhajaaDoor
