/- A text read as a day: plain laws. No program in sight, no condition. -/
import Derived.Test.YtfpiaajnphidiaaDoorDateP
import Derived.Test.YtfpiaajnphidiaaDoorDayNum
import Derived.Test.YtfpiaajnphidiaaDoorDigP
namespace Go.Proofs.YtfpiaajnphidiaaDoor
open Go.ChangeShapes Go.WideShapes Go.ChangeAt Go.RowKit
set_option linter.unusedVariables false
def dsA (s : ByteArray) : ByteArray := s.extract 0 4
def dsB (s : ByteArray) : ByteArray := s.extract 5 7
def dsC (s : ByteArray) : ByteArray := s.extract 8 s.size
def okR (s : ByteArray) : Bool := ((s.data.toList.getD 4 0).toNat : Int) == 45 && (((s.data.toList.getD 7 0).toNat : Int) == 45 && (digOk (dsA s) && (digOk (dsB s) && (digOk (dsC s) && okDay (digVal (dsA s)) (digVal (dsB s)) (digVal (dsC s))))))
theorem list10 (l : List UInt8) (h : l.length = 10) : ∃ a b c d e f g i j k, l = [a, b, c, d, e, f, g, i, j, k] := by
  match l, h with
  | [a, b, c, d, e, f, g, i, j, k], _ => exact ⟨a, b, c, d, e, f, g, i, j, k, rfl⟩
theorem parts10 (s : ByteArray) (h : s.size = 10) : ∃ a b c d e f g i j k, s.data.toList = [a, b, c, d, e, f, g, i, j, k] ∧ (dsA s).data.toList = [a, b, c, d] ∧ (dsB s).data.toList = [f, g] ∧ (dsC s).data.toList = [j, k] := by
  obtain ⟨a, b, c, d, e, f, g, i, j, k, hl⟩ := list10 s.data.toList (by simpa using h)
  refine ⟨a, b, c, d, e, f, g, i, j, k, hl, ?_, ?_, ?_⟩
  · unfold dsA; rw [Lib.extract_data, hl]; rfl
  · unfold dsB; rw [Lib.extract_data, hl]; rfl
  · unfold dsC; rw [Lib.extract_data, hl, h]; rfl
theorem okDay_yes {y m d : Int} (h : okDay y m d = true) : 2000 ≤ y ∧ y ≤ 2099 ∧ 1 ≤ m ∧ m ≤ 12 ∧ 1 ≤ d ∧ d ≤ mlen y m ∧ d ≤ 31 := by
  unfold okDay at h
  simp only [Bool.and_eq_true] at h
  obtain ⟨y0, y1⟩ := inB_yes h.1
  obtain ⟨m0, m1⟩ := inB_yes h.2.1
  obtain ⟨d0, d1⟩ := inB_yes h.2.2
  have := mlen_bd y m m0 m1
  exact ⟨y0, y1, m0, m1, d0, d1, by omega⟩
theorem okDay_date {y m d : Int} (h : okDay y m d = true) : dateT (numDay y m d) = ymd y m d := by
  obtain ⟨y0, y1, m0, m1, d0, d1, _⟩ := okDay_yes h
  have D : IsDate (numDay y m d) y m d := ⟨y0, m0, m1, d0, d1, by rw [(num_t h).1]⟩
  obtain ⟨g0, g1⟩ := D.day_bd y1
  obtain ⟨e1, e2, e3⟩ := d_eq D
  rw [dateT_t (inB_t g0 g1), e1, e2, e3]
  rfl
theorem itoa_year {y : Int} (h0 : 2000 ≤ y) (h1 : y ≤ 2099) : (Lib.itoa y).length = 4 := by
  obtain ⟨u, rfl⟩ := Int.eq_ofNat_of_zero_le (show 0 ≤ y by omega)
  rw [itoa_pos']
  have a := dec_len (p := 3) (u := u) (by omega)
  have b := dec_len_le (p := 3) (u := u) (by omega)
  omega
theorem okR_eq {s : ByteArray} (h10 : s.size = 10) (h : okR s = true) : dateT (numDay (digVal (dsA s)) (digVal (dsB s)) (digVal (dsC s))) = s := by
  obtain ⟨a, b, c, d, e, f, g, i, j, k, hl, hA, hB, hC⟩ := parts10 s h10
  unfold okR at h
  simp only [Bool.and_eq_true, beq_iff_eq] at h
  obtain ⟨he, hi, oA, oB, oC, hd⟩ := h
  rw [okDay_date hd]
  obtain ⟨y0, y1, m0, m1, d0, d1, d2⟩ := okDay_yes hd
  have oA' : allD [a, b, c, d] = true := by rw [← hA]; exact oA
  have oB' : allD [f, g] = true := by rw [← hB]; exact oB
  have oC' : allD [j, k] = true := by rw [← hC]; exact oC
  obtain ⟨vA, a0, a1⟩ := dig_bd [a, b, c, d] oA' 4 rfl (by omega)
  obtain ⟨vB, b0, b1⟩ := dig_bd [f, g] oB' 2 rfl (by omega)
  obtain ⟨vC, c0, c1⟩ := dig_bd [j, k] oC' 2 rfl (by omega)
  have eA : digVal (dsA s) = digV [a, b, c, d] := by unfold digVal; rw [hA, vA]
  have eB : digVal (dsB s) = digV [f, g] := by unfold digVal; rw [hB, vB]
  have eC : digVal (dsC s) = digV [j, k] := by unfold digVal; rw [hC, vC]
  rw [eA] at y0 y1
  rw [eB] at m0 m1
  rw [eC] at d0 d2
  rw [eA, eB, eC]
  apply eq_of_list
  rw [ymd_list, hl]
  have t1 : Lib.itoa (digV [a, b, c, d]) = [a, b, c, d] := by
    obtain ⟨u, hu⟩ := Int.eq_ofNat_of_zero_le a0
    have := dec_of_digits (p := 3) rfl oA' (by omega) (by omega)
    rw [hu, itoa_pos']
    rw [hu, Int.toNat_natCast] at this
    exact this
  rw [t1, two_of_digits oB' (by omega), two_of_digits oC' (by omega)]
  rw [hl] at he hi
  have e45 : e = 45 := by
    have h2 : (e.toNat : Int) = 45 := by simpa using he
    apply UInt8.toNat_inj.1
    show e.toNat = 45
    omega
  have i45 : i = 45 := by
    have h2 : (i.toNat : Int) = 45 := by simpa using hi
    apply UInt8.toNat_inj.1
    show i.toNat = 45
    omega
  rw [e45, i45]
  rfl
theorem okR_ne {s : ByteArray} (h10 : s.size = 10) (h : okR s = false) (hd : okDay (digValN (dsA s)) (digValN (dsB s)) (digValN (dsC s)) = true) :
    ¬ dateT (numDay (digValN (dsA s)) (digValN (dsB s)) (digValN (dsC s))) = s := by
  intro he
  rw [okDay_date hd] at he
  obtain ⟨y0, y1, m0, m1, d0, d1, d2⟩ := okDay_yes hd
  have oA : digOk (dsA s) = true := by
    rcases hh : digOk (dsA s) with _ | _
    · rw [digValN_f hh] at y0; omega
    · rfl
  have oB : digOk (dsB s) = true := by
    rcases hh : digOk (dsB s) with _ | _
    · rw [digValN_f hh] at m0; omega
    · rfl
  have oC : digOk (dsC s) = true := by
    rcases hh : digOk (dsC s) with _ | _
    · rw [digValN_f hh] at d0; omega
    · rfl
  have hl := congrArg (fun t : ByteArray => t.data.toList) he
  simp only [ymd_list] at hl
  have h4 := itoa_year y0 y1
  have hA' := digValN_t oA
  have hB' := digValN_t oB
  have hC' := digValN_t oC
  have g4 : s.data.toList.getD 4 0 = 45 := by
    rw [← hl]
    generalize Lib.itoa (digValN (dsA s)) = t at *
    match t, h4 with
    | [t0, t1, t2, t3], _ => rfl
  have g7 : s.data.toList.getD 7 0 = 45 := by
    rw [← hl]
    generalize Lib.itoa (digValN (dsA s)) = t at *
    match t, h4 with
    | [t0, t1, t2, t3], _ => rfl
  have : okR s = true := by
    unfold okR
    rw [g4, g7, oA, oB, oC, ← hA', ← hB', ← hC', hd]
    rfl
  rw [h] at this
  cases this
noncomputable def rdV (s : ByteArray) : Int := if s.size = 10 ∧ okR s = true then numDay (digVal (dsA s)) (digVal (dsB s)) (digVal (dsC s)) else 0
def rdB (s : ByteArray) : Bool := decide (s.size = 10 ∧ okR s = true)
theorem rd_f {s : ByteArray} (h : ¬ (s.size = 10 ∧ okR s = true)) : rdV s = 0 ∧ rdB s = false := ⟨by unfold rdV; rw [if_neg h], decide_eq_false h⟩
theorem rd_t {s : ByteArray} (h : s.size = 10 ∧ okR s = true) : rdV s = numDay (digVal (dsA s)) (digVal (dsB s)) (digVal (dsC s)) ∧ rdB s = true := ⟨by unfold rdV; rw [if_pos h], decide_eq_true h⟩
theorem at4 (s : ByteArray) (h : s.size = 10) : ((s.data.toList.getD 4 0).toNat : Int) = ((s[4]'(by omega)).toNat : Int) := by
  have : s.data.toList[4]'(by simp; omega) = s[4]'(by omega) := rfl
  rw [← this, List.getD_eq_getElem?_getD, List.getElem?_eq_getElem (by simp; omega)]
  rfl
theorem at7 (s : ByteArray) (h : s.size = 10) : ((s.data.toList.getD 7 0).toNat : Int) = ((s[7]'(by omega)).toNat : Int) := by
  have : s.data.toList[7]'(by simp; omega) = s[7]'(by omega) := rfl
  rw [← this, List.getD_eq_getElem?_getD, List.getElem?_eq_getElem (by simp; omega)]
  rfl
theorem okR_1 {s : ByteArray} (h : s.size = 10) (k : ¬ ((s[4]'(by omega)).toNat : Int) = 45) : okR s = false := by unfold okR; rw [at4 s h, beq_eq_false_iff_ne.2 k]; rfl
theorem okR_2 {s : ByteArray} (h : s.size = 10) (k : ¬ ((s[7]'(by omega)).toNat : Int) = 45) : okR s = false := by unfold okR; rw [at7 s h, beq_eq_false_iff_ne.2 k]; simp
theorem okR_3 {s : ByteArray} (h : digOk (dsA s) = false) : okR s = false := by unfold okR; rw [h]; simp
theorem okR_4 {s : ByteArray} (h : digOk (dsB s) = false) : okR s = false := by unfold okR; rw [h]; simp
theorem okR_5 {s : ByteArray} (h : digOk (dsC s) = false) : okR s = false := by unfold okR; rw [h]; simp
theorem okR_6 {s : ByteArray} (h : s.size = 10) (k4 : ((s[4]'(by omega)).toNat : Int) = 45) (k7 : ((s[7]'(by omega)).toNat : Int) = 45) (h1 : digOk (dsA s) = true) (h2 : digOk (dsB s) = true) (h3 : digOk (dsC s) = true) : okR s = okDay (digVal (dsA s)) (digVal (dsB s)) (digVal (dsC s)) := by
  unfold okR
  rw [at4 s h, at7 s h, beq_iff_eq.2 k4, beq_iff_eq.2 k7, h1, h2, h3]
  rfl
theorem okR_day {s : ByteArray} (h : okR s = true) : digOk (dsA s) = true ∧ digOk (dsB s) = true ∧ digOk (dsC s) = true ∧ okDay (digVal (dsA s)) (digVal (dsB s)) (digVal (dsC s)) = true := by
  unfold okR at h
  simp only [Bool.and_eq_true] at h
  exact ⟨h.2.2.1, h.2.2.2.1, h.2.2.2.2.1, h.2.2.2.2.2⟩
end Go.Proofs.YtfpiaajnphidiaaDoor
