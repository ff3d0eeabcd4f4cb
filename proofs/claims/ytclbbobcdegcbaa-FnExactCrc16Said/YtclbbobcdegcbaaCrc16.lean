/- The law FnExactCrc16 holds: the program's Crc16 returns what the reference's returns, for every string and every int64. No condition. -/
import Derived.Test.YtclbbobcdegcbaaBase
namespace Go.Proofs.Ytclbbobcdegcbaa.fnExactCrc16
open Go.ChangeShapes Go.WideShapes Go.ChangeAt Go.RowKit
open Go.ChangeMaps (open_string shut_string)
set_option linter.unusedVariables false
def crcBit (c : Int) : Int := if 65535 < wrap64 (c * 2) then bits .xor .i64 (bits .and .i64 (wrap64 (c * 2)) 65535) 4129 else wrap64 (c * 2)
def crcBits : Nat → Int → Int
  | 0, c => c
  | j + 1, c => crcBit (crcBits j c)
def crcByte (c : Int) (b : UInt8) : Int := crcBits 8 (bits .xor .i64 c (wrap64 (wrap64 (b.toNat : Int) * 256)))
def crcL (l : List UInt8) (c : Int) : Int := l.foldl crcByte c
theorem take_snoc (s : ByteArray) (k : Nat) (h : k < s.size) : s.data.toList.take (k + 1) = s.data.toList.take k ++ [s[k]] := by
  rw [List.take_succ_eq_append_getElem (by simpa using h)]; rfl
theorem crcL_snoc (s : ByteArray) (k : Nat) (h : k < s.size) (c : Int) : crcL (s.data.toList.take (k + 1)) c = crcBits 8 (bits .xor .i64 (crcL (s.data.toList.take k) c) (wrap64 (wrap64 (s[k].toNat : Int) * 256))) := by
  rw [take_snoc s k h]
  simp [crcL, List.foldl_append, crcByte]
theorem crcBit_hi {c : Int} (h : 65535 < wrap64 (c * 2)) : crcBit c = bits .xor .i64 (bits .and .i64 (wrap64 (c * 2)) 65535) 4129 := by unfold crcBit; rw [if_pos h]
theorem crcBit_lo {c : Int} (h : ¬ 65535 < wrap64 (c * 2)) : crcBit c = wrap64 (c * 2) := by unfold crcBit; rw [if_neg h]
theorem val_i64 {a b : Int} (h : a = b) : Value.int .i64 a = .int .i64 b := by rw [h]
theorem l01Crc_any (s : ByteArray) (c0 : Int) (w : World) (hs : s.size ≤ maxLen) :
    Calls Try.prog 51 #[.string s, .int .i64 c0] w fun e w' => e = .returned (.int .i64 (crcL s.data.toList c0)) ∧ w = w' := by
  unfold maxLen at hs
  go_enter Try.func51, Try.ntmps51
  go_wp2
  go_loop [1, 5, 6] (fun c i j => ∃ (k : Nat), k ≤ s.size ∧ i = .int .i64 k ∧ c = .int .i64 (crcL (s.data.toList.take k) c0)) (fun _ i _ => s.size - (intOf i).toNat)
  case atStart => exact ⟨0, Nat.zero_le _, rfl, rfl⟩
  case round =>
    obtain ⟨k, hk, rfl, rfl⟩ := hrel
    by_cases hlt : k < s.size
    · have HC := Lib.hid (crcL_snoc s k hlt c0)
      generalize crcL (s.data.toList.take k) c0 = cc at *
      go_wp2
      generalize hx : bits BinOp.xor IntKind.i64 cc (wrap64 (wrap64 ↑s[k].toNat * 256)) = x at *
      clear hx
      go_loop [1, 6] (fun c j => ∃ (m : Nat), m ≤ 8 ∧ j = .int .i64 m ∧ c = .int .i64 (crcBits m x)) (fun _ j => 8 - (intOf j).toNat)
      case atStart => exact ⟨0, by omega, rfl, rfl⟩
      case round =>
        obtain ⟨m, hm, rfl, rfl⟩ := hrel
        by_cases hlm : m < 8
        · generalize hy : crcBits m x = y at *
          have HY := Lib.hid hy
          clear hy
          by_cases hb : 65535 < wrap64 (y * 2)
          · have HB := Lib.hid (crcBit_hi hb)
            go_wp2
            go_round
            case rel => exact ⟨m + 1, by omega, by go_num, val_i64 (by show _ = crcBit (crcBits m x); rw [HY.out, HB.out])⟩
            case measure => simp [intOf]; omega
          · have HB := Lib.hid (crcBit_lo hb)
            go_wp2
            go_round
            case rel => exact ⟨m + 1, by omega, by go_num, val_i64 (by show _ = crcBit (crcBits m x); rw [HY.out, HB.out])⟩
            case measure => simp [intOf]; omega
        · obtain rfl : m = 8 := by omega
          go_wp2
          go_round
          case rel => exact ⟨k + 1, by omega, by go_num, val_i64 (by rw [HC.out])⟩
          case measure => simp [intOf]; omega
    · obtain rfl : k = s.size := by omega
      go_wp2
      go_ret
      exact ⟨ret_int (by rw [List.take_of_length_le (by simp)]), rfl⟩
def crc16 (s : ByteArray) (c : Int) : Int := if inB c 0 65535 then crcL s.data.toList c else 0
theorem crc16_t {s : ByteArray} {c : Int} (h : inB c 0 65535 = true) : crc16 s c = crcL s.data.toList c := by unfold crc16; rw [if_pos h]
theorem crc16_f {s : ByteArray} {c : Int} (h : inB c 0 65535 = false) : crc16 s c = 0 := by unfold crc16; rw [h]; rfl
theorem spec_any (s : ByteArray) (c0 : Int) (w : World) (hs : s.size ≤ maxLen) :
    Calls Try.prog 36 #[.string s, .int .i64 c0] w fun e w' => e = .returned (.int .i64 (crc16 s c0)) ∧ w = w' := by
  rcases h0 : inB c0 0 65535 with _ | _
  · have F := Lib.hid (crc16_f (s := s) h0)
    go_enter Try.func36, Try.ntmps36
    go_wp2_with (first | (go_at_call 38; refine (l00In_any _ _ _ _).mono ?_; rintro e w' ⟨rfl, rfl⟩) | (go_at_call 51; refine (l01Crc_any _ _ _ hs).mono ?_; rintro e w' ⟨rfl, rfl⟩))
    go_ret
    exact ⟨(ret_int F.out).symm, rfl⟩
  · have F := Lib.hid (crc16_t (s := s) h0)
    go_enter Try.func36, Try.ntmps36
    go_wp2_with (first | (go_at_call 38; refine (l00In_any _ _ _ _).mono ?_; rintro e w' ⟨rfl, rfl⟩) | (go_at_call 51; refine (l01Crc_any _ _ _ hs).mono ?_; rintro e w' ⟨rfl, rfl⟩))
    go_ret
    exact ⟨(ret_int F.out).symm, rfl⟩
theorem impl_any (s : ByteArray) (c0 : Int) (w : World) (hs : s.size ≤ maxLen) :
    Calls Try.prog 37 #[.string s, .int .i64 c0] w fun e w' => e = .returned (.int .i64 (crc16 s c0)) ∧ w = w' := by
  unfold maxLen at hs
  rcases h0 : inB c0 0 65535 with _ | _
  · have F := Lib.hid (crc16_f (s := s) h0)
    go_enter Try.func37, Try.ntmps37
    go_wp2_with (go_at_call 39; refine (within_any _ _ _ _).mono ?_; rintro e w' ⟨rfl, rfl⟩)
    go_ret
    exact ⟨(ret_int F.out).symm, rfl⟩
  have F := Lib.hid (crc16_t (s := s) h0)
  go_enter Try.func37, Try.ntmps37
  go_wp2_with (go_at_call 39; refine (within_any _ _ _ _).mono ?_; rintro e w' ⟨rfl, rfl⟩)
  clear h0
  go_loop [5, 13] (fun c i => ∃ (k : Nat), k ≤ s.size ∧ i = .int .i64 k ∧ c = .int .i64 (crcL (s.data.toList.take k) c0)) (fun _ i => s.size - (intOf i).toNat)
  case atStart => exact ⟨0, Nat.zero_le _, rfl, rfl⟩
  case round =>
    obtain ⟨k, hk, rfl, rfl⟩ := hrel
    by_cases hlt : k < s.size
    · have HC := Lib.hid (crcL_snoc s k hlt c0)
      generalize crcL (s.data.toList.take k) c0 = cc at *
      go_wp2
      generalize hx : bits BinOp.xor IntKind.i64 cc (wrap64 (wrap64 ↑s[k].toNat * 256)) = x at *
      clear hx
      go_loop [5, 23] (fun c j => ∃ (m : Nat), m ≤ 8 ∧ j = .int .i64 m ∧ c = .int .i64 (crcBits m x)) (fun _ j => 8 - (intOf j).toNat)
      case atStart => exact ⟨0, by omega, rfl, rfl⟩
      case round =>
        obtain ⟨m, hm, rfl, rfl⟩ := hrel
        by_cases hlm : m < 8
        · generalize hy : crcBits m x = y at *
          have HY := Lib.hid hy
          clear hy
          by_cases hb : 65535 < wrap64 (y * 2)
          · have HB := Lib.hid (crcBit_hi hb)
            go_wp2
            go_round
            case rel => exact ⟨m + 1, by omega, by go_num, val_i64 (by show _ = crcBit (crcBits m x); rw [HY.out, HB.out])⟩
            case measure => simp [intOf]; omega
          · have HB := Lib.hid (crcBit_lo hb)
            go_wp2
            go_round
            case rel => exact ⟨m + 1, by omega, by go_num, val_i64 (by show _ = crcBit (crcBits m x); rw [HY.out, HB.out])⟩
            case measure => simp [intOf]; omega
        · obtain rfl : m = 8 := by omega
          go_wp2
          go_round
          case rel => exact ⟨k + 1, by omega, by go_num, val_i64 (by rw [HC.out])⟩
          case measure => simp [intOf]; omega
    · obtain rfl : k = s.size := by omega
      go_wp2
      go_ret
      exact ⟨ret_int (by rw [F.out, List.take_of_length_le (by simp)]), rfl⟩
theorem walk (a0 : ByteArray) (w0 : a0.size ≤ maxLen) (a1 : Int) (w1 : (Lit.int .i64 a1).wf = true) (w : World) :
    Calls Try.prog 14 #[.string a0, .int .i64 a1] w fun e w' => e = .returned (.bool true) ∧ Below w.heap.size w w' := by
  clear w1
  by_cases hb : 1048576 < a0.size
  · go_enter Try.func14, Try.ntmps14
    go_wp2
    go_ret
    exact ⟨rfl, Below.refl _ _⟩
  · go_enter Try.func14, Try.ntmps14
    go_wp2_with (first | (go_at_call 36; refine (spec_any _ _ _ w0).mono ?_; rintro e w' ⟨rfl, rfl⟩) | (go_at_call 37; refine (impl_any _ _ _ w0).mono ?_; rintro e w' ⟨rfl, rfl⟩))
    go_ret
    exact ⟨rfl, Below.refl _ _⟩
theorem own : ownKnob Try.prog.godebug = none := by kernel_rfl
theorem laidOut : laidOutB Try.prog = true := by kernel_rfl
set_option maxRecDepth 100000 in
theorem lifted (os : Os) (started : os.Started) (H : Type) (enc : TypeId × Value → H) :
    ReturnsInHanded {} Try.checked os 14 .any (Rows.fnExactCrc16Spec.pre6 enc Try.prog Try.f14 Rows.fnExactCrc16Row.domain false) (Rows.fnExactCrc16Spec.post enc Try.prog Try.f14 false true false false) := by
  refine returnsInHanded_of_change (C := Try.checked) own started (by kernel_rfl) Try.func14
    (ChangeSpec.witness6 (enc := enc) (C := Try.checked) false ⟨#[], #[.string ⟨#[]⟩, .int .i64 0], []⟩ 8 (by kernel_rfl) (by kernel_rfl) (by kernel_rfl) (by kernel_rfl)) ?_
  intro W base args ds gs before hval0 hW hcnd _
  have hval : ∀ (j : Nat) t v, Try.f14.params[j]? = some t → args[j]? = some v → Value.okWide Try.prog W .any base t v := hval0
  have hW' := hW
  obtain ⟨p, q, hA0, hV, rfl, hfz, hnd⟩ := hW
  have hA : DataW.TrodAll enc Try.prog W 0 (fun _ => true) true Try.f14.params.toList args.toList ds p := hA0
  rw [Try.params14] at hA hval
  obtain ⟨v0, vs0, d0, ds0, p0, q0, hargs, rfl, rfl, h0, r0⟩ := trodAll_cons hA
  obtain ⟨v1, vs1, d1, ds1, p1, q1, rfl, rfl, rfl, h1, r1⟩ := trodAll_cons r0
  obtain ⟨rfl, rfl, rfl⟩ := trodAll_nil r1
  obtain rfl : args = #[v0, v1] := by cases args; simp_all
  obtain ⟨rfl, rfl⟩ := trodVars_none hV
  obtain ⟨a0, rfl, rfl, rfl, w0⟩ := open_string Try.underlying9 (hval 0 9 v0 rfl rfl) h0
  obtain ⟨a1, rfl, rfl, rfl, w1⟩ := open_int Try.underlying2 (hval 1 2 v1 rfl rfl) h1
  clear hA0 hval0
  refine (walk a0 w0 a1 w1 W).mono fun e W' ⟨he, bel⟩ => ?_
  subst he
  exact ⟨_, rfl, _, _, _, [], _, [], hW', trodAll_mk1 (shut_bool Try.underlying4 _), (trodAll_cons_mk (shut_string Try.underlying9 w0) (trodAll_cons_mk (shut_int Try.underlying2 w1) trodAll_mk0)), rfl, bel.frame _, fun h => by cases h⟩
theorem over : Rows.fnExactCrc16Row.holds Try.pinned (OpenSpec.ofChange Rows.fnExactCrc16Spec) :=
  OpenClaim.holds_of_wide 14 Try.f14 rfl rfl rfl rfl rfl rfl rfl ⟨rfl, rfl, rfl, rfl, rfl⟩ rfl rfl rfl rfl rfl (by kernel_rfl) Try.func14 (by kernel_rfl)
    (of_decide_eq_true (by kernel_rfl)) (by unfold Func.isWrapper; first | (rw [if_pos (by decide +kernel)]; kernel_rfl) | (rw [if_neg (by decide +kernel)]; exact ⟨rfl, rfl⟩))
    (fun os started H enc _ => lifted os started H enc)
theorem proved : Rows.FnExactCrc16Said := over
#print axioms proved
end Go.Proofs.Ytclbbobcdegcbaa.fnExactCrc16
