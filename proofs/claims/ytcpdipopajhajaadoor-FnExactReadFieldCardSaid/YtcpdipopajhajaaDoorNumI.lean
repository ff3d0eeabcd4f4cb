/- A text read as a number: the contract of the program's ReadDecimal, in a world in which the library's table and its two sentinels read as their initialisers lay them. -/
import Derived.Test.YtcpdipopajhajaaDoorNumT
import Derived.Test.YtcpdipopajhajaaDoorDecT
import Derived.Test.YtcpdipopajhajaaDoorLaidE
import Derived.Lib.Strings
namespace Go.Proofs.YtcpdipopajhajaaDoor
open Go.ChangeShapes Go.WideShapes Go.ChangeAt Go.RowKit
set_option linter.unusedVariables false
theorem numB_parse_f {l : List UInt8} (h : ∀ v, Lib.parseIntB 64 l ≠ .ok v) : numB l = false := by
  cases e : numB l
  · rfl
  · exact absurd (num_parse e) (h _)
theorem decS_eq {s : ByteArray} {v : Int} (h : decS v = s) : Lib.itoa v = s.data.toList := by rw [← h]; rfl
theorem num_back {s : ByteArray} (h : numB s.data.toList = true) : decS (numV s.data.toList) = s := by
  apply eq_of_list
  unfold decS
  rw [num_itoa h]
def bodyS (s : ByteArray) : ByteArray := ⟨(bodyL s.data.toList).toArray⟩
theorem bodyS_size (s : ByteArray) : (bodyS s).size = (bodyL s.data.toList).length := by simp [bodyS, ByteArray.size]
theorem trimMinus_any (s : ByteArray) (w : World) : Calls Tryd.prog 56 #[.string s, .string ⟨#[45]⟩] w fun e w' => e = .returned (.string (bodyS s)) ∧ w = w' := by
  refine (Tryd.strings_TrimPrefix s ⟨#[45]⟩ w).mono fun e w' h => ⟨h.1.trans (ret_str ?_), h.2.symm⟩
  unfold bodyS
  rw [← trim_body]
def Fails (w : World) (e : Ending) (w' : World) : Prop := ∃ v tp p, e = .returned (.tuple #[.int .i64 v, .iface tp p]) ∧ Below w.heap.size w w'
theorem parse_fails (s : ByteArray) (w : World) (hs : s.size ≤ 281474976710656) (h1 : SynOk w) (h2 : RngOk w) (h : ∀ v, Lib.parseIntB 64 s.data.toList ≠ .ok v) :
    Calls Tryd.prog 55 #[.string s, .int .i64 10, .int .i64 64] w (Fails w) := by
  rcases hp : Lib.parseIntB 64 s.data.toList with v | _ | _
  · exact absurd hp (h v)
  · obtain ⟨tp, p, hc⟩ := h1
    exact (Any.strconv_ParseInt_10_at64_syntax Tryd.laysC174 s hs hp _ w hc (.inr ⟨_, _, rfl⟩)).mono fun e w' ⟨N, he, _, _, hb⟩ => ⟨_, _, _, he, hb⟩
  · obtain ⟨tp, p, hc⟩ := h2
    exact (Any.strconv_ParseInt_10_at64_range Tryd.laysC174 s hs hp _ w hc (.inr ⟨_, _, rfl⟩)).mono fun e w' ⟨N, he, _, _, hb⟩ => ⟨_, _, _, he, hb⟩
theorem parse_ok (s : ByteArray) (w : World) (hs : s.size ≤ 281474976710656) (v : Int) (h : Lib.parseIntB 64 s.data.toList = .ok v) :
    Calls Tryd.prog 55 #[.string s, .int .i64 10, .int .i64 64] w fun e w' => e = .returned (.tuple #[.int .i64 v, .nilIface]) ∧ Below w.heap.size w w' := by
  refine (Tryd.strconv_ParseInt_10_at64_ok s (by omega) v h w).mono fun e w' h => ⟨h.1, ?_⟩
  rcases h.2 with rfl | ⟨t, rfl⟩
  · exact Below.refl _ _
  · exact Lib.bytesWorld_below ..
set_option maxHeartbeats 1000000 in
theorem implNum_any (s : ByteArray) (w : World) (hs : s.size ≤ 1048576) (ht : TabOk w) (h1 : SynOk w) (h2 : RngOk w) :
    Calls Tryd.prog 35 #[.string s] w fun e w' => e = .returned (.tuple #[.int .i64 (rnV s.data.toList), .bool (numB s.data.toList)]) ∧ Below w.heap.size w w' := by
  have HT := Lib.hid ht
  clear ht
  by_cases hp : ∃ v, Lib.parseIntB 64 s.data.toList = .ok v
  · obtain ⟨v, hp⟩ := hp
    obtain ⟨v0, v1⟩ := Lib.parseIntB_bounds hp
    have e63 : ((2 ^ (64 - 1) : Nat) : Int) = 9223372036854775808 := by decide
    rw [e63] at v0 v1
    clear e63
    have HP := Lib.hid (parse_ok s w (by omega) v hp)
    have hbs := bodyS_size s
    by_cases h18 : 18 < (bodyL s.data.toList).length
    · have F := Lib.hid (rn_no (numB_no (l := s.data.toList) (.inr (.inl h18))))
      have z : decide ((18 : Int) < ((bodyS s).size : Int)) = true := decide_eq_true (by omega)
      clear hp h18 hbs
      go_enter Tryd.func35, Tryd.ntmps35
      go_wp2_with fail
      refine HP.out.mono ?_
      rintro e w1 ⟨rfl, hb1⟩
      go_wp2_with (go_at_call 56; refine (trimMinus_any _ _).mono ?_; rintro e w' ⟨rfl, rfl⟩)
      go_ret2
      exact ⟨(ret_nb F.out.1 F.out.2).symm, hb1⟩
    · have z : decide ((18 : Int) < ((bodyS s).size : Int)) = false := decide_eq_false (by omega)
      by_cases he : decS v = s
      · have hn := num_of_itoa (decS_eq he) (by omega)
        have hv : v = numV s.data.toList := by have := num_parse hn; rw [hp] at this; injection this
        have F := Lib.hid (rn_yes hn)
        have HV := Lib.hid hv
        have hq : ((decS v).toList == s.toList) = true := beq_t he
        clear hp h18 hbs he hn hv
        go_enter Tryd.func35, Tryd.ntmps35
        go_wp2_with fail
        refine HP.out.mono ?_
        rintro e w1 ⟨rfl, hb1⟩
        go_wp2_with (go_at_call 56; refine (trimMinus_any _ _).mono ?_; rintro e w' ⟨rfl, rfl⟩)
        refine (implDec_any _ _ (by omega) (by omega) (HT.out.on hb1)).mono ?_
        rintro e w2 ⟨rfl, hb2⟩
        go_wp2_with fail
        go_ret2
        exact ⟨(ret_nb (F.out.1.trans HV.out.symm) F.out.2).symm, bl_trans hb1 hb2⟩
      · have hn : numB s.data.toList = false := by
          cases e : numB s.data.toList
          · rfl
          · have hv : v = numV s.data.toList := by have := num_parse e; rw [hp] at this; injection this
            exact absurd (by rw [hv]; exact num_back e) he
        have F := Lib.hid (rn_no hn)
        have hq : ((decS v).toList == s.toList) = false := beq_f he
        clear hp h18 hbs he hn
        go_enter Tryd.func35, Tryd.ntmps35
        go_wp2_with fail
        refine HP.out.mono ?_
        rintro e w1 ⟨rfl, hb1⟩
        go_wp2_with (go_at_call 56; refine (trimMinus_any _ _).mono ?_; rintro e w' ⟨rfl, rfl⟩)
        refine (implDec_any _ _ (by omega) (by omega) (HT.out.on hb1)).mono ?_
        rintro e w2 ⟨rfl, hb2⟩
        go_wp2_with fail
        go_ret2
        exact ⟨(ret_nb F.out.1 F.out.2).symm, bl_trans hb1 hb2⟩
  · have hp' : ∀ v, Lib.parseIntB 64 s.data.toList ≠ .ok v := fun v e => hp ⟨v, e⟩
    have F := Lib.hid (rn_no (numB_parse_f hp'))
    have HP := Lib.hid (parse_fails s w (by omega) h1 h2 hp')
    clear hp hp' h1 h2
    go_enter Tryd.func35, Tryd.ntmps35
    go_wp2_with fail
    refine HP.out.mono ?_
    rintro e w1 ⟨v, tp, p, rfl, hb1⟩
    go_wp2_with fail
    go_ret2
    exact ⟨(ret_nb F.out.1 F.out.2).symm, hb1⟩
end Go.Proofs.YtcpdipopajhajaaDoor
