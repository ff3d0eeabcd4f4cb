/- The law FnExactReadClock holds: the program's ReadClock returns what the reference's returns, for every string. No condition. -/
import Derived.Test.YtnkmcejaemcfeaaTwo
import Derived.Test.YtnkmcejaemcfeaaDigits
import Derived.Test.YtnkmcejaemcfeaaQuiet
import Derived.Lib.Strings
namespace Go.Proofs.Ytnkmcejaemcfeaa.fnExactReadClock
open Go.ChangeShapes Go.WideShapes Go.ChangeAt Go.RowKit
open Go.ChangeMaps (open_string shut_string)
set_option linter.unusedVariables false
/-! ### plain laws -/
theorem two_digits (n : Int) (h0 : 0 ≤ n) (h1 : n < 100) : allD (two n) = true ∧ digW (two n) = n := by
  have e1 := two_byte1 n h0 h1
  have e2 := two_byte2 n h0 h1
  have ha : allD (two n) = true := by
    simp only [allD, two, List.all_cons, List.all_nil, Bool.and_true, Bool.and_eq_true]
    exact ⟨isD_t (by omega), isD_t (by omega)⟩
  refine ⟨ha, ?_⟩
  rw [(digW_small (two n) ha (by simp [two])).1]
  simp only [digV, two, List.foldl_cons, List.foldl_nil]
  omega
theorem digits_two (a b : UInt8) (h : allD [a, b] = true) : 0 ≤ digW [a, b] ∧ digW [a, b] < 100 ∧ two (digW [a, b]) = [a, b] := by
  have hh : isD a = true ∧ isD b = true := by simpa [allD] using h
  have ha := isD_yes hh.1
  have hb := isD_yes hh.2
  obtain ⟨e, e0, e1⟩ := digW_small [a, b] h (by simp)
  have ev : digV [a, b] = 10 * ((a.toNat : Int) - 48) + ((b.toNat : Int) - 48) := by simp only [digV, List.foldl_cons, List.foldl_nil]; omega
  rw [e, ev]
  refine ⟨by omega, by omega, ?_⟩
  unfold two
  rw [show 48 + ((10 * ((a.toNat : Int) - 48) + ((b.toNat : Int) - 48)) / 10).toNat = a.toNat from by omega, show 48 + ((10 * ((a.toNat : Int) - 48) + ((b.toNat : Int) - 48)) % 10).toNat = b.toNat from by omega]
  simp
theorem list5 (l : List UInt8) (h : l.length = 5) : ∃ a b c d e, l = [a, b, c, d, e] := by
  match l, h with
  | [a, b, c, d, e], _ => exact ⟨a, b, c, d, e, rfl⟩
/-- What a text of five bytes comes to, over its bytes. -/
def okC (s : ByteArray) : Bool := ((s.data.toList.getD 2 0).toNat : Int) == 58 && (digOk (s.extract 0 2) && (digOk (s.extract 3 s.size) && (decide (digVal (s.extract 0 2) ≤ 23) && decide (digVal (s.extract 3 s.size) ≤ 59))))
def minC (s : ByteArray) : Int := 60 * digValN (s.extract 0 2) + digValN (s.extract 3 s.size)
theorem parts5 (s : ByteArray) (h : s.size = 5) : ∃ a b c d e, s.data.toList = [a, b, c, d, e] ∧ (s.extract 0 2).data.toList = [a, b] ∧ (s.extract 3 s.size).data.toList = [d, e] := by
  obtain ⟨a, b, c, d, e, hl⟩ := list5 s.data.toList (by simpa using h)
  refine ⟨a, b, c, d, e, hl, ?_, ?_⟩
  · rw [Lib.extract_data, hl]; rfl
  · rw [Lib.extract_data, hl, h]; rfl
theorem clock_list (m : Int) : (clockS m).data.toList = two (m / 60) ++ [58] ++ two (m % 60) := by
  unfold clockS twoS
  rw [show (#[58] : Array UInt8) = [58].toArray from rfl, cat_bytes, cat_bytes]
theorem eq_of_list {s t : ByteArray} (h : s.data.toList = t.data.toList) : s = t := by
  apply ByteArray.ext
  exact Array.toList_inj.1 h
theorem ok_eq {s : ByteArray} (h5 : s.size = 5) (h : okC s = true) : clockT (minC s) = s ∧ 0 ≤ minC s ∧ minC s ≤ 1439 ∧ minC s = 60 * digVal (s.extract 0 2) + digVal (s.extract 3 s.size) := by
  obtain ⟨a, b, c, d, e, hl, hA, hB⟩ := parts5 s h5
  unfold okC at h
  simp only [Bool.and_eq_true, decide_eq_true_eq, beq_iff_eq] at h
  obtain ⟨hc, oA, oB, vA, vB⟩ := h
  have eM : minC s = 60 * digVal (s.extract 0 2) + digVal (s.extract 3 s.size) := by
    unfold minC; rw [digValN_t oA, digValN_t oB]
  have oA' : allD [a, b] = true := by rw [← hA]; exact oA
  have oB' : allD [d, e] = true := by rw [← hB]; exact oB
  obtain ⟨a0, a1, a2⟩ := digits_two a b oA'
  obtain ⟨b0, b1, b2⟩ := digits_two d e oB'
  have vA' : digVal (s.extract 0 2) = digW [a, b] := by unfold digVal; rw [hA]
  have vB' : digVal (s.extract 3 s.size) = digW [d, e] := by unfold digVal; rw [hB]
  rw [vA', vB'] at eM
  rw [vA'] at vA
  rw [vB'] at vB
  have hm0 : 0 ≤ minC s := by omega
  have hm1 : minC s ≤ 1439 := by omega
  refine ⟨?_, hm0, hm1, by rw [vA', vB']; exact eM⟩
  rw [clockT_t (inB_t hm0 hm1)]
  apply eq_of_list
  show (clockS (minC s)).data.toList = _
  rw [clock_list, hl, show minC s / 60 = digW [a, b] from by omega, show minC s % 60 = digW [d, e] from by omega, a2, b2]
  rw [hl] at hc
  have : c = 58 := by
    have h2 : (c.toNat : Int) = 58 := by simpa using hc
    apply UInt8.toNat_inj.1
    show c.toNat = 58
    omega
  rw [this]
  rfl
theorem ok_ne {s : ByteArray} (h5 : s.size = 5) (h : okC s = false) : ¬ clockT (minC s) = s := by
  intro he
  rcases hi : inB (minC s) 0 1439 with _ | _
  · rw [clockT_f hi] at he
    rw [← he] at h5
    exact absurd h5 (by decide)
  · obtain ⟨m0, m1⟩ := inB_yes hi
    rw [clockT_t hi] at he
    have hl : s.data.toList = two (minC s / 60) ++ [58] ++ two (minC s % 60) := by
      rw [← clock_list]
      exact congrArg (fun t : ByteArray => t.data.toList) he.symm
    obtain ⟨a, b, c, d, e, hl2, hA, hB⟩ := parts5 s h5
    obtain ⟨p1, p2⟩ := two_digits (minC s / 60) (by omega) (by omega)
    obtain ⟨q1, q2⟩ := two_digits (minC s % 60) (by omega) (by omega)
    have hx : minC s / 60 ≤ 23 := by omega
    have hy : minC s % 60 ≤ 59 := by omega
    generalize minC s / 60 = x at *
    generalize minC s % 60 = y at *
    have hlist : [a, b, c, d, e] = two x ++ [58] ++ two y := hl2.symm.trans hl
    simp only [two, List.cons_append, List.nil_append, List.cons.injEq, and_true] at hlist
    obtain ⟨ea, eb, ec, ed, ee⟩ := hlist
    have hA2 : (s.extract 0 2).data.toList = two x := by rw [hA, ea, eb]; rfl
    have hB2 : (s.extract 3 s.size).data.toList = two y := by rw [hB, ed, ee]; rfl
    have : okC s = true := by
      unfold okC
      simp only [Bool.and_eq_true, decide_eq_true_eq, beq_iff_eq]
      refine ⟨by rw [hl2, ec]; rfl, by unfold digOk; rw [hA2]; exact p1, by unfold digOk; rw [hB2]; exact q1, by unfold digVal; rw [hA2, p2]; exact hx, by unfold digVal; rw [hB2, q2]; exact hy⟩
    rw [h] at this
    cases this
theorem third (s : ByteArray) (h : s.size = 5) : ((s.data.toList.getD 2 0).toNat : Int) = ((s[2]'(by omega)).toNat : Int) := by
  have : s.data.toList[2]'(by simp; omega) = s[2]'(by omega) := rfl
  rw [← this, List.getD_eq_getElem?_getD, List.getElem?_eq_getElem (by simp; omega)]
  rfl
theorem size_A (s : ByteArray) (h : s.size = 5) : (s.extract 0 2).size ≤ maxLen := by rw [ByteArray.size_extract]; unfold maxLen; omega
theorem size_B (s : ByteArray) (h : s.size = 5) : (s.extract 3 s.size).size ≤ maxLen := by rw [ByteArray.size_extract]; unfold maxLen; omega
def resV (s : ByteArray) : Int := if s.size = 5 ∧ okC s = true then minC s else 0
def resB (s : ByteArray) : Bool := decide (s.size = 5 ∧ okC s = true)
theorem res_f {s : ByteArray} (h : ¬ (s.size = 5 ∧ okC s = true)) : resV s = 0 ∧ resB s = false := ⟨by unfold resV; rw [if_neg h], decide_eq_false h⟩
theorem res_t {s : ByteArray} (h : s.size = 5 ∧ okC s = true) : resV s = minC s ∧ resB s = true := ⟨by unfold resV; rw [if_pos h], decide_eq_true h⟩
theorem okC_1 {s : ByteArray} (h5 : s.size = 5) (h : ¬ ((s[2]'(by omega)).toNat : Int) = 58) : okC s = false := by
  unfold okC
  rw [third s h5, beq_eq_false_iff_ne.2 h]
  rfl
theorem okC_2 {s : ByteArray} (h : digOk (s.extract 0 2) = false) : okC s = false := by unfold okC; rw [h]; simp
theorem okC_3 {s : ByteArray} (h : digOk (s.extract 3 s.size) = false) : okC s = false := by unfold okC; rw [h]; simp
theorem okC_4 {s : ByteArray} (h : ¬ digVal (s.extract 0 2) ≤ 23) : okC s = false := by unfold okC; rw [decide_eq_false h]; simp
theorem okC_5 {s : ByteArray} (h : ¬ digVal (s.extract 3 s.size) ≤ 59) : okC s = false := by unfold okC; rw [decide_eq_false h]; simp
theorem okC_t {s : ByteArray} (h5 : s.size = 5) (h1 : ((s[2]'(by omega)).toNat : Int) = 58) (h2 : digOk (s.extract 0 2) = true) (h3 : digOk (s.extract 3 s.size) = true) (h4 : digVal (s.extract 0 2) ≤ 23) (h6 : digVal (s.extract 3 s.size) ≤ 59) : okC s = true := by
  unfold okC
  rw [third s h5, beq_iff_eq.2 h1, h2, h3, decide_eq_true h4, decide_eq_true h6]
  rfl
theorem val_bd (s : ByteArray) (h : digOk s = true) (hl : s.size ≤ 18) : 0 ≤ digVal s := by
  have := digW_small s.data.toList h (by simpa using hl)
  unfold digVal
  omega
set_option maxHeartbeats 2000000 in
theorem spec_any (s : ByteArray) (w : World) (hs : s.size ≤ maxLen) : Calls Try.prog 26 #[.string s] w fun e w' => e = .returned (.tuple #[.int .i64 (resV s), .bool (resB s)]) ∧ w = w' := by
  by_cases h5 : s.size = 5
  · have hb : ((s.size : Int) != 5) = false := by rw [bne_eq_false_iff_eq]; omega
    have sA := size_A s h5
    have sB := size_B s h5
    have l2 : 2 < s.size := by omega
    have H5 := Lib.hid h5
    have h3 : 3 ≤ s.size := by omega
    have h6 : s.size ≤ 100 := by omega
    clear h5 hs
    by_cases t0 : ((s[2]'(by omega)).toNat : Int) = 58
    · have t0' : (((s[2]'(by omega)).toNat : Int) != 58) = false := by rw [bne_eq_false_iff_eq]; exact t0
      have T0 := Lib.hid t0
      clear t0
      rcases t1 : digOk (s.extract 0 2) with _ | _
      · have OKF := okC_2 t1
        have F := Lib.hid (res_f (s := s) (fun h => by rw [OKF] at h; cases h.2))
        clear OKF
        go_enter Try.func26, Try.ntmps26
        go_wp2_with fail
        refine (l02Digits_any _ _ sA).mono ?_
        rintro e w' ⟨rfl, rfl⟩
        go_wp2_with fail
        refine (l02Digits_any _ _ sB).mono ?_
        rintro e w' ⟨rfl, rfl⟩
        go_wp2_with fail
        go_ret2
        exact ⟨(ret_ib F.out.1 F.out.2).symm, rfl⟩
      rcases t2 : digOk (s.extract 3 s.size) with _ | _
      · have OKF := okC_3 t2
        have F := Lib.hid (res_f (s := s) (fun h => by rw [OKF] at h; cases h.2))
        clear OKF
        go_enter Try.func26, Try.ntmps26
        go_wp2_with fail
        refine (l02Digits_any _ _ sA).mono ?_
        rintro e w' ⟨rfl, rfl⟩
        go_wp2_with fail
        refine (l02Digits_any _ _ sB).mono ?_
        rintro e w' ⟨rfl, rfl⟩
        go_wp2_with fail
        go_ret2
        exact ⟨(ret_ib F.out.1 F.out.2).symm, rfl⟩
      have e1 := digVal0_t t1
      have e2 := digVal0_t t2
      have v1 := val_bd _ t1 (by rw [ByteArray.size_extract]; omega)
      have v2 := val_bd _ t2 (by rw [ByteArray.size_extract]; have := H5.out; omega)
      by_cases t3 : digVal (s.extract 0 2) ≤ 23
      · by_cases t4 : digVal (s.extract 3 s.size) ≤ 59
        · have OKT := okC_t H5.out T0.out t1 t2 t3 t4
          have F := Lib.hid (res_t ⟨H5.out, OKT⟩)
          have G := Lib.hid (ok_eq H5.out OKT).2.2.2
          clear OKT
          go_enter Try.func26, Try.ntmps26
          go_wp2_with fail
          refine (l02Digits_any _ _ sA).mono ?_
          rintro e w' ⟨rfl, rfl⟩
          go_wp2_with fail
          refine (l02Digits_any _ _ sB).mono ?_
          rintro e w' ⟨rfl, rfl⟩
          go_wp2_with fail
          go_ret2
          exact ⟨(ret_ib (F.out.1.trans G.out) F.out.2).symm, rfl⟩
        · have OKF := okC_5 t4
          have F := Lib.hid (res_f (s := s) (fun h => by rw [OKF] at h; cases h.2))
          clear OKF
          go_enter Try.func26, Try.ntmps26
          go_wp2_with fail
          refine (l02Digits_any _ _ sA).mono ?_
          rintro e w' ⟨rfl, rfl⟩
          go_wp2_with fail
          refine (l02Digits_any _ _ sB).mono ?_
          rintro e w' ⟨rfl, rfl⟩
          go_wp2_with fail
          go_ret2
          exact ⟨(ret_ib F.out.1 F.out.2).symm, rfl⟩
      · have OKF := okC_4 t3
        have F := Lib.hid (res_f (s := s) (fun h => by rw [OKF] at h; cases h.2))
        clear OKF
        go_enter Try.func26, Try.ntmps26
        go_wp2_with fail
        refine (l02Digits_any _ _ sA).mono ?_
        rintro e w' ⟨rfl, rfl⟩
        go_wp2_with fail
        refine (l02Digits_any _ _ sB).mono ?_
        rintro e w' ⟨rfl, rfl⟩
        go_wp2_with fail
        go_ret2
        exact ⟨(ret_ib F.out.1 F.out.2).symm, rfl⟩
    · have t0' : (((s[2]'(by omega)).toNat : Int) != 58) = true := by rw [bne_iff_ne]; exact t0
      have OKF := okC_1 H5.out t0
      clear t0
      have F := Lib.hid (res_f (s := s) (fun h => by rw [OKF] at h; cases h.2))
      clear OKF
      go_enter Try.func26, Try.ntmps26
      go_wp2_with fail
      go_ret2
      exact ⟨(ret_ib F.out.1 F.out.2).symm, rfl⟩
  · have hb : ((s.size : Int) != 5) = true := by rw [bne_iff_ne]; omega
    have F := Lib.hid (res_f (s := s) (fun h => h5 h.1))
    clear h5
    unfold maxLen at hs
    go_enter Try.func26, Try.ntmps26
    go_wp2
    go_ret2
    exact ⟨(ret_ib F.out.1 F.out.2).symm, rfl⟩
theorem dn_bd (s : ByteArray) (hl : s.size ≤ 2) : -1 ≤ digValN s ∧ digValN s < 100 := by
  unfold digValN
  split
  · rename_i h
    have h2 := digW_small s.data.toList h (by simp; omega)
    unfold digVal
    have : (10 : Int) ^ s.data.toList.length ≤ 10 ^ 2 := by
      have := Nat.pow_le_pow_right (n := 10) (by omega) (show s.data.toList.length ≤ 2 by simpa using hl)
      exact_mod_cast this
    have h10 : (10 : Int) ^ 2 = 100 := by decide
    omega
  · omega
theorem beq_t {s t : ByteArray} (h : s = t) : (s.toList == t.toList) = true := by subst h; simp
theorem beq_f {s t : ByteArray} (h : ¬ s = t) : (s.toList == t.toList) = false := by
  rw [beq_eq_false_iff_ne, ByteArray.toList_eq, ByteArray.toList_eq]
  exact fun e => h (eq_of_list e)
set_option maxHeartbeats 2000000 in
theorem impl_any (s : ByteArray) (w : World) (hs : s.size ≤ maxLen) : Calls Try.prog 27 #[.string s] w fun e w' => e = .returned (.tuple #[.int .i64 (resV s), .bool (resB s)]) ∧ Below w.heap.size w w' := by
  by_cases h5 : s.size = 5
  · have hb : ((s.size : Int) != 5) = false := by rw [bne_eq_false_iff_eq]; omega
    have sA := size_A s h5
    have sB := size_B s h5
    have l2 : 2 ≤ s.size := by omega
    have H5 := Lib.hid h5
    have h3 : 3 ≤ s.size := by omega
    have h6 : s.size ≤ 100 := by omega
    obtain ⟨x0, x1⟩ := dn_bd (s.extract 0 2) (by rw [ByteArray.size_extract]; omega)
    obtain ⟨y0, y1⟩ := dn_bd (s.extract 3 s.size) (by rw [ByteArray.size_extract]; omega)
    clear h5 hs
    rcases hk : okC s with _ | _
    · have F := Lib.hid (res_f (s := s) (fun h => by rw [hk] at h; cases h.2))
      have hq : ((clockT (60 * digValN (s.extract 0 2) + digValN (s.extract 3 s.size))).toList == s.toList) = false := beq_f (ok_ne H5.out hk)
      clear hk
      go_enter Try.func27, Try.ntmps27
      go_wp2_with fail
      go_quiet ((go_at_call 60; first | exact quiet_lft (digitsOf_any _ _ sA) | exact quiet_lft (digitsOf_any _ _ sB)))
      go_wp2_with fail
      refine (implClock_any _ _).mono ?_
      rintro e w1 ⟨rfl, hb1⟩
      go_wp2_with fail
      go_ret2
      exact ⟨(ret_ib F.out.1 F.out.2).symm, bl_trans (bl_drewN (Below.refl _ _) _) hb1⟩
    · have F := Lib.hid (res_t ⟨H5.out, hk⟩)
      have hq : ((clockT (60 * digValN (s.extract 0 2) + digValN (s.extract 3 s.size))).toList == s.toList) = true := beq_t (ok_eq H5.out hk).1
      clear hk
      go_enter Try.func27, Try.ntmps27
      go_wp2_with fail
      go_quiet ((go_at_call 60; first | exact quiet_lft (digitsOf_any _ _ sA) | exact quiet_lft (digitsOf_any _ _ sB)))
      go_wp2_with fail
      refine (implClock_any _ _).mono ?_
      rintro e w1 ⟨rfl, hb1⟩
      go_wp2_with fail
      go_ret2
      exact ⟨(ret_ib F.out.1 F.out.2).symm, bl_trans (bl_drewN (Below.refl _ _) _) hb1⟩
  · have hb : ((s.size : Int) != 5) = true := by rw [bne_iff_ne]; omega
    have F := Lib.hid (res_f (s := s) (fun h => h5 h.1))
    clear h5
    unfold maxLen at hs
    go_enter Try.func27, Try.ntmps27
    go_wp2
    go_ret2
    exact ⟨(ret_ib F.out.1 F.out.2).symm, Below.refl _ _⟩
theorem walk (a0 : ByteArray) (w0 : a0.size ≤ maxLen) (w : World) :
    Calls Try.prog 8 #[.string a0] w fun e w' => e = .returned (.bool true) ∧ Below w.heap.size w w' := by
  by_cases hb : 1048576 < a0.size
  · go_enter Try.func8, Try.ntmps8
    go_wp2
    go_ret
    exact ⟨rfl, Below.refl _ _⟩
  · go_enter Try.func8, Try.ntmps8
    go_wp2_with (first | (go_at_call 26; refine (spec_any _ _ w0).mono ?_; rintro e w' ⟨rfl, rfl⟩) | (go_at_call 27; refine (impl_any _ _ w0).mono ?_; rintro e w1 ⟨rfl, hb1⟩))
    go_ret
    exact ⟨rfl, hb1⟩
theorem own : ownKnob Try.prog.godebug = none := by kernel_rfl
theorem laidOut : laidOutB Try.prog = true := by kernel_rfl
set_option maxRecDepth 100000 in
theorem lifted (os : Os) (started : os.Started) (H : Type) (enc : TypeId × Value → H) :
    ReturnsInHanded {} Try.checked os 8 .any (Rows.fnExactReadClockSpec.pre6 enc Try.prog Try.f8 Rows.fnExactReadClockRow.domain false) (Rows.fnExactReadClockSpec.post enc Try.prog Try.f8 false true false false) := by
  refine returnsInHanded_of_change (C := Try.checked) own started (by kernel_rfl) Try.func8
    (ChangeSpec.witness6 (enc := enc) (C := Try.checked) false ⟨#[], #[.string ⟨#[]⟩], []⟩ 8 (by kernel_rfl) (by kernel_rfl) (by kernel_rfl) (by kernel_rfl)) ?_
  intro W base args ds gs before hval0 hW hcnd _
  have hval : ∀ (j : Nat) t v, Try.f8.params[j]? = some t → args[j]? = some v → Value.okWide Try.prog W .any base t v := hval0
  have hW' := hW
  obtain ⟨p, q, hA0, hV, rfl, hfz, hnd⟩ := hW
  have hA : DataW.TrodAll enc Try.prog W 0 (fun _ => true) true Try.f8.params.toList args.toList ds p := hA0
  rw [Try.params8] at hA hval
  obtain ⟨v0, vs0, d0, ds0, p0, q0, hargs, rfl, rfl, h0, r0⟩ := trodAll_cons hA
  obtain ⟨rfl, rfl, rfl⟩ := trodAll_nil r0
  obtain rfl : args = #[v0] := by cases args; simp_all
  obtain ⟨rfl, rfl⟩ := trodVars_none hV
  obtain ⟨a0, rfl, rfl, rfl, w0⟩ := open_string Try.underlying9 (hval 0 9 v0 rfl rfl) h0
  clear hA0 hval0
  refine (walk a0 w0 W).mono fun e W' ⟨he, bel⟩ => ?_
  subst he
  exact ⟨_, rfl, _, _, _, [], _, [], hW', trodAll_mk1 (shut_bool Try.underlying4 _), (trodAll_cons_mk (shut_string Try.underlying9 w0) trodAll_mk0), rfl, bel.frame _, fun h => by cases h⟩
theorem over : Rows.fnExactReadClockRow.holds Try.pinned (OpenSpec.ofChange Rows.fnExactReadClockSpec) :=
  OpenClaim.holds_of_wide 8 Try.f8 rfl rfl rfl rfl rfl rfl rfl ⟨rfl, rfl, rfl, rfl, rfl⟩ rfl rfl rfl rfl rfl (by kernel_rfl) Try.func8 (by kernel_rfl)
    (of_decide_eq_true (by kernel_rfl)) (by unfold Func.isWrapper; first | (rw [if_pos (by decide +kernel)]; kernel_rfl) | (rw [if_neg (by decide +kernel)]; exact ⟨rfl, rfl⟩))
    (fun os started H enc _ => lifted os started H enc)
theorem proved : Rows.FnExactReadClockSaid := over
#print axioms proved
end Go.Proofs.Ytnkmcejaemcfeaa.fnExactReadClock
