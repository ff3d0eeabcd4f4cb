/- A text read as a number with places: the contract of the reference's function (cases printed by mk_fixs.py). No condition. -/
import Derived.Test.YtjmojlinfjiacaaDoorFixR
import Derived.Test.YtjmojlinfjiacaaDoorFixS
namespace Go.Proofs.YtjmojlinfjiacaaDoor
open Go.ChangeShapes Go.WideShapes Go.ChangeAt Go.RowKit
set_option linter.unusedVariables false
/-- What a text that is read is made of, behind its sign. -/
theorem x_parts1 {s : ByteArray} {q : Nat} (hh : s.data.toList.head? = some 45) (h : xB s (q : Int) = true) :
    ∃ m : Nat, m ≤ 1000000000 ∧ Parts s q 1 m ∧ fixS (-(m : Int)) q = s := by
  obtain ⟨n, q', hq, h1, h6, n0, n1, hv, he⟩ := x_yes h
  obtain rfl : q = q' := by omega
  obtain ⟨a, b⟩ := parts_n h1 h6 n0 n1 he
  by_cases hn : n < 0
  · refine ⟨n.natAbs, by omega, (a hn).2, ?_⟩
    rw [show -(n.natAbs : Int) = n from by omega]
    exact he
  · exact absurd hh (b hn).1
theorem x_parts0 {s : ByteArray} {q : Nat} (hh : ¬ s.data.toList.head? = some 45) (h : xB s (q : Int) = true) :
    ∃ m : Nat, m ≤ 1000000000 ∧ Parts s q 0 m ∧ fixS (m : Int) q = s := by
  obtain ⟨n, q', hq, h1, h6, n0, n1, hv, he⟩ := x_yes h
  obtain rfl : q = q' := by omega
  obtain ⟨a, b⟩ := parts_n h1 h6 n0 n1 he
  by_cases hn : n < 0
  · exact absurd (a hn).1 hh
  · refine ⟨n.natAbs, by omega, (b hn).2, ?_⟩
    rw [show (n.natAbs : Int) = n from by omega]
    exact he
theorem xN_p {s : ByteArray} {p : Int} (h : inB p 1 6 = false) : xB s p = false := by
  rcases hx : xB s p with _ | _
  · rfl
  · obtain ⟨n, q, rfl, h1, h6, _⟩ := x_yes hx
    rw [inB_t (by omega) (by omega)] at h
    exact h
theorem xN_z {s : ByteArray} {q : Nat} (h : 20 < s.size ∨ s.size < q + 2) : xB s (q : Int) = false := by
  rcases hx : xB s q with _ | _
  · rfl
  · exfalso
    by_cases hh : s.data.toList.head? = some 45
    · obtain ⟨m, _, P, _⟩ := x_parts1 hh hx
      have := P.sz; have := P.lo; omega
    · obtain ⟨m, _, P, _⟩ := x_parts0 hh hx
      have := P.sz; have := P.lo; omega
theorem byte_at (s : ByteArray) (a : Nat) (h : a < s.size) : s.data.toList[a]? = some s[a] := by
  rw [List.getElem?_eq_getElem (by rw [lst_len]; exact h)]
  rfl
def sgI : Nat → Int → Int
  | 0, m => m
  | _, m => -m
/-- The two readings of the sign are one. -/
def signIs (s : ByteArray) (g : Nat) : Prop := (g = 1 ∧ s.data.toList.head? = some 45) ∨ (g = 0 ∧ ¬ s.data.toList.head? = some 45)
theorem x_parts {s : ByteArray} {q g : Nat} (hg : signIs s g) (h : xB s (q : Int) = true) : ∃ m : Nat, m ≤ 1000000000 ∧ Parts s q g m ∧ fixS (sgI g m) q = s := by
  rcases hg with ⟨rfl, hh⟩ | ⟨rfl, hh⟩
  · exact x_parts1 hh h
  · exact x_parts0 hh h
theorem xN_pt {s : ByteArray} {q g a : Nat} (hg : signIs s g) (ha : a < s.size) (hq : a + q + 1 = s.size) (h : ¬ (s[a].toNat : Int) = 46 ∨ a ≤ g) : xB s (q : Int) = false := by
  rcases hx : xB s q with _ | _
  · rfl
  · exfalso
    obtain ⟨m, _, P, _⟩ := x_parts hg hx
    have h1 := P.pt
    have h2 := P.lt
    rw [show s.size - q - 1 = a from by omega, byte_at s a ha] at h1
    injection h1 with h1
    rcases h with h | h
    · rw [h1] at h; exact h rfl
    · omega
theorem xN_dig {s : ByteArray} {q g a : Nat} (hg : signIs s g) (hq : a + q + 1 = s.size) (h : digOk (s.extract g a) = false ∨ digOk (s.extract (a + 1) s.size) = false ∨ 1000000000 < digVal (s.extract g a)) : xB s (q : Int) = false := by
  rcases hx : xB s q with _ | _
  · rfl
  · exfalso
    obtain ⟨m, hm, P, _⟩ := x_parts hg hx
    have h1 := P.dA; have h2 := P.dB; have h3 := P.vA
    rw [show s.size - q - 1 = a from by omega] at h1 h2 h3
    rcases h with h | h | h
    · rw [h] at h1; exact absurd h1 (by decide)
    · rw [h] at h2; exact absurd h2 (by decide)
    · rw [h3] at h
      have : m / 10 ^ q ≤ m := Nat.div_le_self _ _
      omega
/-- A text that is read: its number is what the parts make. -/
theorem x_num {s : ByteArray} {q g a : Nat} (hg : signIs s g) (hq : a + q + 1 = s.size) (h : xB s (q : Int) = true) :
    ∃ m : Nat, m ≤ 1000000000 ∧ digVal (s.extract g a) * ((10 ^ q : Nat) : Int) + digVal (s.extract (a + 1) s.size) = (m : Int) ∧ fixS (sgI g m) q = s := by
  obtain ⟨m, hm, P, he⟩ := x_parts hg h
  have h3 := P.vA; have h4 := P.vB
  rw [show s.size - q - 1 = a from by omega] at h3 h4
  refine ⟨m, hm, ?_, he⟩
  rw [h3, h4]
  have := Nat.div_add_mod m (10 ^ q)
  rw [Nat.mul_comm] at this
  have e : ((m / 10 ^ q : Nat) : Int) * ((10 ^ q : Nat) : Int) + ((m % 10 ^ q : Nat) : Int) = ((m / 10 ^ q * 10 ^ q + m % 10 ^ q : Nat) : Int) := by push_cast; rfl
  rw [e, this]
theorem xN_n {s : ByteArray} {q g a : Nat} {n : Int} (hg : signIs s g) (hq : a + q + 1 = s.size) (hn : sgI g (digVal (s.extract g a) * ((10 ^ q : Nat) : Int) + digVal (s.extract (a + 1) s.size)) = n) (h : inB n (-1000000000) 1000000000 = false ∨ ¬ fixS n q = s) : xB s (q : Int) = false := by
  rcases hx : xB s q with _ | _
  · rfl
  · exfalso
    obtain ⟨m, hm, e, he⟩ := x_num hg hq hx
    rw [e] at hn
    rcases h with h | h
    · rw [inB_t (by rw [← hn]; rcases hg with ⟨rfl, _⟩ | ⟨rfl, _⟩ <;> simp only [sgI] <;> omega) (by rw [← hn]; rcases hg with ⟨rfl, _⟩ | ⟨rfl, _⟩ <;> simp only [sgI] <;> omega)] at h
      exact absurd h (by decide)
    · rw [hn] at he; exact h he
theorem dig_small (s : ByteArray) (a b : Nat) (h : digOk (s.extract a b) = true) (hl : (s.extract a b).size ≤ 18) : 0 ≤ digVal (s.extract a b) ∧ digVal (s.extract a b) < ((10 ^ (s.extract a b).size : Nat) : Int) := by
  obtain ⟨e, b0, b1⟩ := digW_small _ h (by rw [lst_len]; exact hl)
  rw [lst_len] at b1
  have : (10 : Int) ^ (s.extract a b).size = ((10 ^ (s.extract a b).size : Nat) : Int) := by push_cast; rfl
  rw [this] at b1
  unfold digVal
  rw [e]
  exact ⟨b0, b1⟩
set_option maxHeartbeats 4000000 in
theorem specFixR_any (s : ByteArray) (p : Int) (w : World) (hs : s.size ≤ 1048576) :
    Calls Tryd.prog 13 #[.string s, .int .i64 p] w fun e w' => e = .returned (.tuple #[.int .i64 (xV s p), .bool (xB s p)]) ∧ Below w.heap.size w w' := by
  rcases hp : inB p 1 6 with _ | _
  · have F := Lib.hid (x_f (s := s) (xN_p hp))
    go_enter Tryd.func13, Tryd.ntmps13
    go_wp2_with (first | (go_at_call 37; refine (l00In_any _ _ _ _).mono ?_; rintro e w' ⟨rfl, rfl⟩) | (go_at_call 22; go_in))
    go_ret2
    exact ⟨(ret_nb F.out.1 F.out.2).symm, Below.refl _ _⟩
  obtain ⟨p0, p1⟩ := inB_yes hp
  obtain ⟨q, rfl⟩ := Int.eq_ofNat_of_zero_le (by omega : 0 ≤ p)
  by_cases hz : 20 < s.size ∨ s.size < q + 2
  · have F := Lib.hid (x_f (xN_z hz))
    have w2 : IntKind.i64.wrap ((q : Int) + 2) = (q : Int) + 2 := by rw [IntKind.wrap_i64]; omega
    rcases hz with hz | hz
    · have z1 : decide ((20 : Int) < (s.size : Int)) = true := decide_eq_true (by omega)
      go_enter Tryd.func13, Tryd.ntmps13
      go_wp2_with (first | (go_at_call 37; refine (l00In_any _ _ _ _).mono ?_; rintro e w' ⟨rfl, rfl⟩) | (go_at_call 22; go_in))
      go_ret2
      exact ⟨(ret_nb F.out.1 F.out.2).symm, Below.refl _ _⟩
    · have z1 : decide ((20 : Int) < (s.size : Int)) = false := decide_eq_false (by omega)
      have z2 : decide ((s.size : Int) < (q : Int) + 2) = true := decide_eq_true (by omega)
      go_enter Tryd.func13, Tryd.ntmps13
      go_wp2_with (first | (go_at_call 37; refine (l00In_any _ _ _ _).mono ?_; rintro e w' ⟨rfl, rfl⟩) | (go_at_call 22; go_in))
      go_ret2
      exact ⟨(ret_nb F.out.1 F.out.2).symm, Below.refl _ _⟩
  have z1 : decide ((20 : Int) < (s.size : Int)) = false := decide_eq_false (by omega)
  have z2 : decide ((s.size : Int) < (q : Int) + 2) = false := decide_eq_false (by omega)
  have w2 : IntKind.i64.wrap ((q : Int) + 2) = (q : Int) + 2 := by rw [IntKind.wrap_i64]; omega
  obtain ⟨a, hq⟩ : ∃ a, a + q + 1 = s.size := ⟨s.size - q - 1, by omega⟩
  have h0 : 0 < s.size := by omega
  have ha : a < s.size := by omega
  have w3 : IntKind.i64.wrap ((s.size : Int) - (q : Int)) = (s.size : Int) - (q : Int) := by rw [IntKind.wrap_i64]; omega
  have w4 : IntKind.i64.wrap ((s.size : Int) - (q : Int) - 1) = (a : Int) := by rw [IntKind.wrap_i64]; omega
  have w5 : (s.size : Int) - (q : Int) - 1 = (a : Int) := by omega
  have w6 : IntKind.i64.wrap ((a : Int) + 1) = ((a + 1 : Nat) : Int) := by rw [IntKind.wrap_i64]; omega
  have i0 : (0 : Int) ≤ (a : Int) := by omega
  have i1 : (a : Int) ≤ (s.size : Int) := by omega
  have i2 : ((a + 1 : Nat) : Int) ≤ (s.size : Int) := by omega
  have hq6 : q ≤ 6 := by omega
  have hq1 : 1 ≤ q := by omega
  have hs20 : s.size ≤ 20 := by omega
  obtain ⟨b, hb⟩ : ∃ b : Int, b = ((10 ^ q : Nat) : Int) := ⟨_, rfl⟩
  obtain ⟨b0, b1, _, _⟩ := pow6 q hq6
  rw [← hb] at b0 b1
  have HTen := Lib.hid (fun W : World => l02Ten_any q W hq6)
  rw [← hb] at HTen
  have HB := Lib.hid hb
  have HQ := Lib.hid hq
  clear hb hz
  by_cases h45 : (s[0].toNat : Int) = 45
  · have SG := Lib.hid (show signIs s 1 from .inl ⟨rfl, (body_neg s h0 h45).1⟩)
    by_cases hpt : (s[a].toNat : Int) = 46
    case neg =>
      have F := Lib.hid (x_f (xN_pt SG.out ha HQ.out (.inl hpt)))
      have tp : ((s[a].toNat : Int) != 46) = true := by rw [bne_iff_ne]; exact hpt
      go_enter Tryd.func13, Tryd.ntmps13
      go_wp2_with (first | (go_at_call 37; refine (l00In_any _ _ _ _).mono ?_; rintro e w' ⟨rfl, rfl⟩) | (go_at_call 22; go_in) | (go_at_call 25; go_in))
      go_ret2
      exact ⟨(ret_nb F.out.1 F.out.2).symm, Below.refl _ _⟩
    have tp : ((s[a].toNat : Int) != 46) = false := by rw [bne_eq_false_iff_eq]; exact hpt
    by_cases hag : a ≤ 1
    · have F := Lib.hid (x_f (xN_pt SG.out ha HQ.out (.inr hag)))
      have z3 : decide ((a : Int) ≤ 1) = true := decide_eq_true (by omega)
      go_enter Tryd.func13, Tryd.ntmps13
      go_wp2_with (first | (go_at_call 37; refine (l00In_any _ _ _ _).mono ?_; rintro e w' ⟨rfl, rfl⟩) | (go_at_call 22; go_in) | (go_at_call 25; go_in))
      go_ret2
      exact ⟨(ret_nb F.out.1 F.out.2).symm, Below.refl _ _⟩
    have z3 : decide ((a : Int) ≤ 1) = false := decide_eq_false (by omega)
    have i3 : (1 : Int) ≤ (a : Int) := by omega
    have eA : (s.extract 1 a).size ≤ 18 := by rw [ByteArray.size_extract]; omega
    have eB : (s.extract (a + 1) s.size).size = q := by rw [ByteArray.size_extract]; omega
    have SA := dig_small s 1 a
    have SB := dig_small s (a + 1) s.size
    have NA := Lib.hid (fun h => x_f (xN_dig SG.out HQ.out (.inl h)))
    have NB := Lib.hid (fun h => x_f (xN_dig SG.out HQ.out (.inr (.inl h))))
    have NC := Lib.hid (fun h => x_f (xN_dig SG.out HQ.out (.inr (.inr h))))
    have NN := Lib.hid (fun n h => @xN_n s q 1 a n SG.out HQ.out h)
    have DA := Lib.hid (fun W : World => l02Digits_any (s.extract 1 a) W (by unfold maxLen; omega))
    have DB := Lib.hid (fun W : World => l02Digits_any (s.extract (a + 1) s.size) W (by unfold maxLen; omega))
    rw [eB, ← HB.out] at SB
    rw [← HB.out] at NN
    obtain ⟨A, hA⟩ : ∃ A, A = digVal (s.extract 1 a) := ⟨_, rfl⟩
    obtain ⟨B, hB⟩ : ∃ B, B = digVal (s.extract (a + 1) s.size) := ⟨_, rfl⟩
    have hV : ∀ c : ByteArray, digOk c = true → digVal0 c = digVal c := fun c h => digVal0_t h
    rcases ka : digOk (s.extract 1 a) with _ | _
    · have F := Lib.hid (NA.out ka)
      have z4 := digVal0_f ka
      rcases kb : digOk (s.extract (a + 1) s.size) with _ | _
      · have HDA := DA
        have HDB := DB
        rw [ka] at HDA
        rw [kb] at HDB
        clear DA DB SA SB NA NB NC NN hV
        go_enter Tryd.func13, Tryd.ntmps13
        go_wp2_with (first | (go_at_call 37; refine (l00In_any _ _ _ _).mono ?_; rintro e w' ⟨rfl, rfl⟩) | (go_at_call 22; go_in) | (go_at_call 25; go_in) | (go_at_call 23; first | ((with_reducible refine (HDA.out _).mono ?_); rintro e w' ⟨rfl, rfl⟩) | ((with_reducible refine (HDB.out _).mono ?_); rintro e w' ⟨rfl, rfl⟩)) | (go_at_call 24; refine (HTen.out _).mono ?_; rintro e w' ⟨rfl, rfl⟩))
        go_ret2
        exact ⟨(ret_nb F.out.1 F.out.2).symm, Below.refl _ _⟩
      · have HDA := DA
        have HDB := DB
        rw [ka] at HDA
        rw [kb] at HDB
        clear DA DB SA SB NA NB NC NN hV
        go_enter Tryd.func13, Tryd.ntmps13
        go_wp2_with (first | (go_at_call 37; refine (l00In_any _ _ _ _).mono ?_; rintro e w' ⟨rfl, rfl⟩) | (go_at_call 22; go_in) | (go_at_call 25; go_in) | (go_at_call 23; first | ((with_reducible refine (HDA.out _).mono ?_); rintro e w' ⟨rfl, rfl⟩) | ((with_reducible refine (HDB.out _).mono ?_); rintro e w' ⟨rfl, rfl⟩)) | (go_at_call 24; refine (HTen.out _).mono ?_; rintro e w' ⟨rfl, rfl⟩))
        go_ret2
        exact ⟨(ret_nb F.out.1 F.out.2).symm, Below.refl _ _⟩
    have SA := SA ka eA
    rcases kb : digOk (s.extract (a + 1) s.size) with _ | _
    · have F := Lib.hid (NB.out kb)
      have HDA := DA
      have HDB := DB
      rw [ka] at HDA
      rw [kb] at HDB
      clear DA DB SA SB NA NB NC NN hV
      go_enter Tryd.func13, Tryd.ntmps13
      go_wp2_with (first | (go_at_call 37; refine (l00In_any _ _ _ _).mono ?_; rintro e w' ⟨rfl, rfl⟩) | (go_at_call 22; go_in) | (go_at_call 25; go_in) | (go_at_call 23; first | ((with_reducible refine (HDA.out _).mono ?_); rintro e w' ⟨rfl, rfl⟩) | ((with_reducible refine (HDB.out _).mono ?_); rintro e w' ⟨rfl, rfl⟩)) | (go_at_call 24; refine (HTen.out _).mono ?_; rintro e w' ⟨rfl, rfl⟩))
      go_ret2
      exact ⟨(ret_nb F.out.1 F.out.2).symm, Below.refl _ _⟩
    have SB := SB kb (by omega)
    have HDA := DA
    have HDB := DB
    rw [ka, hV _ ka, ← hA] at HDA
    rw [kb, hV _ kb, ← hB] at HDB
    rw [← hA] at SA NC NN
    rw [← hB] at SB NN
    obtain ⟨A0, A1⟩ := SA
    obtain ⟨B0, B1⟩ := SB
    have B2 : B < 1000000 := by omega
    by_cases hc : 1000000000 < A
    · have F := Lib.hid (NC.out hc)
      clear DA DB NA NB NC NN hV hA hB
      go_enter Tryd.func13, Tryd.ntmps13
      go_wp2_with (first | (go_at_call 37; refine (l00In_any _ _ _ _).mono ?_; rintro e w' ⟨rfl, rfl⟩) | (go_at_call 22; go_in) | (go_at_call 25; go_in) | (go_at_call 23; first | ((with_reducible refine (HDA.out _).mono ?_); rintro e w' ⟨rfl, rfl⟩) | ((with_reducible refine (HDB.out _).mono ?_); rintro e w' ⟨rfl, rfl⟩)) | (go_at_call 24; refine (HTen.out _).mono ?_; rintro e w' ⟨rfl, rfl⟩))
      go_ret2
      exact ⟨(ret_nb F.out.1 F.out.2).symm, Below.refl _ _⟩
    have A2 : A ≤ 1000000000 := by omega
    have m0 : 0 ≤ A * b := Int.mul_nonneg A0 (by omega)
    have m1 : A * b ≤ 1000000000 * 1000000 := Int.mul_le_mul A2 b1 (by omega) (by omega)
    have v1 : IntKind.i64.wrap (A * b) = A * b := by rw [IntKind.wrap_i64]; omega
    have v2 : IntKind.i64.wrap (A * b + B) = A * b + B := by rw [IntKind.wrap_i64]; omega
    obtain ⟨N, hN⟩ : ∃ N, N = -(A * b + B) := ⟨_, rfl⟩
    have v3 : IntKind.i64.wrap ((-1) * (A * b + B)) = N := by rw [IntKind.wrap_i64]; omega
    have v4 : (-1) * (A * b + B) = N := by omega
    have v5 : IntKind.i64.wrap N = N := by rw [IntKind.wrap_i64]; omega
    have v6 : -(A * b + B) = N := by omega
    have v7 : IntKind.i64.wrap (-(A * b + B)) = N := by rw [v6]; exact v5
    have NM := Lib.hid (NN.out N hN.symm)
    clear DA DB NA NB NC NN hV hA hB
    rcases hi : inB N (-1000000000) 1000000000 with _ | _
    · have F := Lib.hid (x_f (NM.out (.inl hi)))
      clear hN
      go_enter Tryd.func13, Tryd.ntmps13
      go_wp2_with (first | (go_at_call 37; refine (l00In_any _ _ _ _).mono ?_; rintro e w' ⟨rfl, rfl⟩) | (go_at_call 22; go_in) | (go_at_call 25; go_in) | (go_at_call 23; first | ((with_reducible refine (HDA.out _).mono ?_); rintro e w' ⟨rfl, rfl⟩) | ((with_reducible refine (HDB.out _).mono ?_); rintro e w' ⟨rfl, rfl⟩)) | (go_at_call 24; refine (HTen.out _).mono ?_; rintro e w' ⟨rfl, rfl⟩))
      go_ret2
      exact ⟨(ret_nb F.out.1 F.out.2).symm, Below.refl _ _⟩
    obtain ⟨n0, n1⟩ := inB_yes hi
    by_cases hf : fixS N q = s
    · have F := Lib.hid (x_t (x_of n0 n1 hq1 hq6 hf).1)
      have hqf : ((fixS N q).toList == s.toList) = true := beq_t hf
      rw [(x_of n0 n1 hq1 hq6 hf).2] at F
      clear hN hf
      go_enter Tryd.func13, Tryd.ntmps13
      go_wp2_with (first | (go_at_call 37; refine (l00In_any _ _ _ _).mono ?_; rintro e w' ⟨rfl, rfl⟩) | (go_at_call 22; go_in) | (go_at_call 25; go_in) | (go_at_call 23; first | ((with_reducible refine (HDA.out _).mono ?_); rintro e w' ⟨rfl, rfl⟩) | ((with_reducible refine (HDB.out _).mono ?_); rintro e w' ⟨rfl, rfl⟩)) | (go_at_call 24; refine (HTen.out _).mono ?_; rintro e w' ⟨rfl, rfl⟩))
      refine (l02Fixed_any N q _ n0 n1 hq1 hq6).mono ?_
      rintro e w1 ⟨rfl, hb1⟩
      go_wp2_with fail
      go_ret2
      exact ⟨(ret_nb F.out.1 F.out.2).symm, hb1⟩
    · have F := Lib.hid (x_f (NM.out (.inr hf)))
      have hqf : ((fixS N q).toList == s.toList) = false := beq_f hf
      clear hN hf
      go_enter Tryd.func13, Tryd.ntmps13
      go_wp2_with (first | (go_at_call 37; refine (l00In_any _ _ _ _).mono ?_; rintro e w' ⟨rfl, rfl⟩) | (go_at_call 22; go_in) | (go_at_call 25; go_in) | (go_at_call 23; first | ((with_reducible refine (HDA.out _).mono ?_); rintro e w' ⟨rfl, rfl⟩) | ((with_reducible refine (HDB.out _).mono ?_); rintro e w' ⟨rfl, rfl⟩)) | (go_at_call 24; refine (HTen.out _).mono ?_; rintro e w' ⟨rfl, rfl⟩))
      refine (l02Fixed_any N q _ n0 n1 hq1 hq6).mono ?_
      rintro e w1 ⟨rfl, hb1⟩
      go_wp2_with fail
      go_ret2
      exact ⟨(ret_nb F.out.1 F.out.2).symm, hb1⟩
  · have SG := Lib.hid (show signIs s 0 from .inr ⟨rfl, (body_pos s h0 h45).1⟩)
    by_cases hpt : (s[a].toNat : Int) = 46
    case neg =>
      have F := Lib.hid (x_f (xN_pt SG.out ha HQ.out (.inl hpt)))
      have tp : ((s[a].toNat : Int) != 46) = true := by rw [bne_iff_ne]; exact hpt
      go_enter Tryd.func13, Tryd.ntmps13
      go_wp2_with (first | (go_at_call 37; refine (l00In_any _ _ _ _).mono ?_; rintro e w' ⟨rfl, rfl⟩) | (go_at_call 22; go_in) | (go_at_call 25; go_in))
      go_ret2
      exact ⟨(ret_nb F.out.1 F.out.2).symm, Below.refl _ _⟩
    have tp : ((s[a].toNat : Int) != 46) = false := by rw [bne_eq_false_iff_eq]; exact hpt
    by_cases hag : a ≤ 0
    · have F := Lib.hid (x_f (xN_pt SG.out ha HQ.out (.inr hag)))
      have z3 : decide ((a : Int) ≤ 0) = true := decide_eq_true (by omega)
      go_enter Tryd.func13, Tryd.ntmps13
      go_wp2_with (first | (go_at_call 37; refine (l00In_any _ _ _ _).mono ?_; rintro e w' ⟨rfl, rfl⟩) | (go_at_call 22; go_in) | (go_at_call 25; go_in))
      go_ret2
      exact ⟨(ret_nb F.out.1 F.out.2).symm, Below.refl _ _⟩
    have z3 : decide ((a : Int) ≤ 0) = false := decide_eq_false (by omega)
    have i3 : (0 : Int) ≤ (a : Int) := by omega
    have eA : (s.extract 0 a).size ≤ 18 := by rw [ByteArray.size_extract]; omega
    have eB : (s.extract (a + 1) s.size).size = q := by rw [ByteArray.size_extract]; omega
    have SA := dig_small s 0 a
    have SB := dig_small s (a + 1) s.size
    have NA := Lib.hid (fun h => x_f (xN_dig SG.out HQ.out (.inl h)))
    have NB := Lib.hid (fun h => x_f (xN_dig SG.out HQ.out (.inr (.inl h))))
    have NC := Lib.hid (fun h => x_f (xN_dig SG.out HQ.out (.inr (.inr h))))
    have NN := Lib.hid (fun n h => @xN_n s q 0 a n SG.out HQ.out h)
    have DA := Lib.hid (fun W : World => l02Digits_any (s.extract 0 a) W (by unfold maxLen; omega))
    have DB := Lib.hid (fun W : World => l02Digits_any (s.extract (a + 1) s.size) W (by unfold maxLen; omega))
    rw [eB, ← HB.out] at SB
    rw [← HB.out] at NN
    obtain ⟨A, hA⟩ : ∃ A, A = digVal (s.extract 0 a) := ⟨_, rfl⟩
    obtain ⟨B, hB⟩ : ∃ B, B = digVal (s.extract (a + 1) s.size) := ⟨_, rfl⟩
    have hV : ∀ c : ByteArray, digOk c = true → digVal0 c = digVal c := fun c h => digVal0_t h
    rcases ka : digOk (s.extract 0 a) with _ | _
    · have F := Lib.hid (NA.out ka)
      have z4 := digVal0_f ka
      rcases kb : digOk (s.extract (a + 1) s.size) with _ | _
      · have HDA := DA
        have HDB := DB
        rw [ka] at HDA
        rw [kb] at HDB
        clear DA DB SA SB NA NB NC NN hV
        go_enter Tryd.func13, Tryd.ntmps13
        go_wp2_with (first | (go_at_call 37; refine (l00In_any _ _ _ _).mono ?_; rintro e w' ⟨rfl, rfl⟩) | (go_at_call 22; go_in) | (go_at_call 25; go_in) | (go_at_call 23; first | ((with_reducible refine (HDA.out _).mono ?_); rintro e w' ⟨rfl, rfl⟩) | ((with_reducible refine (HDB.out _).mono ?_); rintro e w' ⟨rfl, rfl⟩)) | (go_at_call 24; refine (HTen.out _).mono ?_; rintro e w' ⟨rfl, rfl⟩))
        go_ret2
        exact ⟨(ret_nb F.out.1 F.out.2).symm, Below.refl _ _⟩
      · have HDA := DA
        have HDB := DB
        rw [ka] at HDA
        rw [kb] at HDB
        clear DA DB SA SB NA NB NC NN hV
        go_enter Tryd.func13, Tryd.ntmps13
        go_wp2_with (first | (go_at_call 37; refine (l00In_any _ _ _ _).mono ?_; rintro e w' ⟨rfl, rfl⟩) | (go_at_call 22; go_in) | (go_at_call 25; go_in) | (go_at_call 23; first | ((with_reducible refine (HDA.out _).mono ?_); rintro e w' ⟨rfl, rfl⟩) | ((with_reducible refine (HDB.out _).mono ?_); rintro e w' ⟨rfl, rfl⟩)) | (go_at_call 24; refine (HTen.out _).mono ?_; rintro e w' ⟨rfl, rfl⟩))
        go_ret2
        exact ⟨(ret_nb F.out.1 F.out.2).symm, Below.refl _ _⟩
    have SA := SA ka eA
    rcases kb : digOk (s.extract (a + 1) s.size) with _ | _
    · have F := Lib.hid (NB.out kb)
      have HDA := DA
      have HDB := DB
      rw [ka] at HDA
      rw [kb] at HDB
      clear DA DB SA SB NA NB NC NN hV
      go_enter Tryd.func13, Tryd.ntmps13
      go_wp2_with (first | (go_at_call 37; refine (l00In_any _ _ _ _).mono ?_; rintro e w' ⟨rfl, rfl⟩) | (go_at_call 22; go_in) | (go_at_call 25; go_in) | (go_at_call 23; first | ((with_reducible refine (HDA.out _).mono ?_); rintro e w' ⟨rfl, rfl⟩) | ((with_reducible refine (HDB.out _).mono ?_); rintro e w' ⟨rfl, rfl⟩)) | (go_at_call 24; refine (HTen.out _).mono ?_; rintro e w' ⟨rfl, rfl⟩))
      go_ret2
      exact ⟨(ret_nb F.out.1 F.out.2).symm, Below.refl _ _⟩
    have SB := SB kb (by omega)
    have HDA := DA
    have HDB := DB
    rw [ka, hV _ ka, ← hA] at HDA
    rw [kb, hV _ kb, ← hB] at HDB
    rw [← hA] at SA NC NN
    rw [← hB] at SB NN
    obtain ⟨A0, A1⟩ := SA
    obtain ⟨B0, B1⟩ := SB
    have B2 : B < 1000000 := by omega
    by_cases hc : 1000000000 < A
    · have F := Lib.hid (NC.out hc)
      clear DA DB NA NB NC NN hV hA hB
      go_enter Tryd.func13, Tryd.ntmps13
      go_wp2_with (first | (go_at_call 37; refine (l00In_any _ _ _ _).mono ?_; rintro e w' ⟨rfl, rfl⟩) | (go_at_call 22; go_in) | (go_at_call 25; go_in) | (go_at_call 23; first | ((with_reducible refine (HDA.out _).mono ?_); rintro e w' ⟨rfl, rfl⟩) | ((with_reducible refine (HDB.out _).mono ?_); rintro e w' ⟨rfl, rfl⟩)) | (go_at_call 24; refine (HTen.out _).mono ?_; rintro e w' ⟨rfl, rfl⟩))
      go_ret2
      exact ⟨(ret_nb F.out.1 F.out.2).symm, Below.refl _ _⟩
    have A2 : A ≤ 1000000000 := by omega
    have m0 : 0 ≤ A * b := Int.mul_nonneg A0 (by omega)
    have m1 : A * b ≤ 1000000000 * 1000000 := Int.mul_le_mul A2 b1 (by omega) (by omega)
    have v1 : IntKind.i64.wrap (A * b) = A * b := by rw [IntKind.wrap_i64]; omega
    have v2 : IntKind.i64.wrap (A * b + B) = A * b + B := by rw [IntKind.wrap_i64]; omega
    obtain ⟨N, hN⟩ : ∃ N, N = (A * b + B) := ⟨_, rfl⟩
    have v3 : IntKind.i64.wrap (1 * (A * b + B)) = N := by rw [IntKind.wrap_i64]; omega
    have v4 : 1 * (A * b + B) = N := by omega
    have v5 : IntKind.i64.wrap N = N := by rw [IntKind.wrap_i64]; omega
    have v6 : A * b + B = N := by omega
    have NM := Lib.hid (NN.out N hN.symm)
    clear DA DB NA NB NC NN hV hA hB
    rcases hi : inB N (-1000000000) 1000000000 with _ | _
    · have F := Lib.hid (x_f (NM.out (.inl hi)))
      clear hN
      go_enter Tryd.func13, Tryd.ntmps13
      go_wp2_with (first | (go_at_call 37; refine (l00In_any _ _ _ _).mono ?_; rintro e w' ⟨rfl, rfl⟩) | (go_at_call 22; go_in) | (go_at_call 25; go_in) | (go_at_call 23; first | ((with_reducible refine (HDA.out _).mono ?_); rintro e w' ⟨rfl, rfl⟩) | ((with_reducible refine (HDB.out _).mono ?_); rintro e w' ⟨rfl, rfl⟩)) | (go_at_call 24; refine (HTen.out _).mono ?_; rintro e w' ⟨rfl, rfl⟩))
      go_ret2
      exact ⟨(ret_nb F.out.1 F.out.2).symm, Below.refl _ _⟩
    obtain ⟨n0, n1⟩ := inB_yes hi
    by_cases hf : fixS N q = s
    · have F := Lib.hid (x_t (x_of n0 n1 hq1 hq6 hf).1)
      have hqf : ((fixS N q).toList == s.toList) = true := beq_t hf
      rw [(x_of n0 n1 hq1 hq6 hf).2] at F
      clear hN hf
      go_enter Tryd.func13, Tryd.ntmps13
      go_wp2_with (first | (go_at_call 37; refine (l00In_any _ _ _ _).mono ?_; rintro e w' ⟨rfl, rfl⟩) | (go_at_call 22; go_in) | (go_at_call 25; go_in) | (go_at_call 23; first | ((with_reducible refine (HDA.out _).mono ?_); rintro e w' ⟨rfl, rfl⟩) | ((with_reducible refine (HDB.out _).mono ?_); rintro e w' ⟨rfl, rfl⟩)) | (go_at_call 24; refine (HTen.out _).mono ?_; rintro e w' ⟨rfl, rfl⟩))
      refine (l02Fixed_any N q _ n0 n1 hq1 hq6).mono ?_
      rintro e w1 ⟨rfl, hb1⟩
      go_wp2_with fail
      go_ret2
      exact ⟨(ret_nb F.out.1 F.out.2).symm, hb1⟩
    · have F := Lib.hid (x_f (NM.out (.inr hf)))
      have hqf : ((fixS N q).toList == s.toList) = false := beq_f hf
      clear hN hf
      go_enter Tryd.func13, Tryd.ntmps13
      go_wp2_with (first | (go_at_call 37; refine (l00In_any _ _ _ _).mono ?_; rintro e w' ⟨rfl, rfl⟩) | (go_at_call 22; go_in) | (go_at_call 25; go_in) | (go_at_call 23; first | ((with_reducible refine (HDA.out _).mono ?_); rintro e w' ⟨rfl, rfl⟩) | ((with_reducible refine (HDB.out _).mono ?_); rintro e w' ⟨rfl, rfl⟩)) | (go_at_call 24; refine (HTen.out _).mono ?_; rintro e w' ⟨rfl, rfl⟩))
      refine (l02Fixed_any N q _ n0 n1 hq1 hq6).mono ?_
      rintro e w1 ⟨rfl, hb1⟩
      go_wp2_with fail
      go_ret2
      exact ⟨(ret_nb F.out.1 F.out.2).symm, hb1⟩
end Go.Proofs.YtjmojlinfjiacaaDoor
