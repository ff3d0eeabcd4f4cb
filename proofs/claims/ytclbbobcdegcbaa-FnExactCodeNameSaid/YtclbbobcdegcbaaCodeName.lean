/- The law FnExactCodeName holds: the program's CodeName returns what the reference's returns, for every int64. No condition. -/
import Derived.Test.YtclbbobcdegcbaaBase
namespace Go.Proofs.Ytclbbobcdegcbaa.fnExactCodeName
open Go.ChangeShapes Go.WideShapes Go.ChangeAt Go.RowKit
open Go.ChangeMaps (open_string shut_string)
set_option linter.unusedVariables false
def name : Int → ByteArray
  | 0 => ⟨#[111, 107]⟩
  | 1 => ⟨#[105, 110, 118, 97, 108, 105, 100]⟩
  | 2 => ⟨#[114, 97, 110, 103, 101]⟩
  | 3 => ⟨#[110, 111, 116, 45, 102, 111, 117, 110, 100]⟩
  | 4 => ⟨#[101, 120, 105, 115, 116, 115]⟩
  | 5 => ⟨#[102, 117, 108, 108]⟩
  | 6 => ⟨#[115, 116, 97, 116, 101]⟩
  | 7 => ⟨#[111, 114, 100, 101, 114]⟩
  | 8 => ⟨#[115, 121, 110, 116, 97, 120]⟩
  | 9 => ⟨#[102, 111, 114, 109, 97, 116]⟩
  | 10 => ⟨#[99, 104, 101, 99, 107, 115, 117, 109]⟩
  | 11 => ⟨#[116, 114, 117, 110, 99, 97, 116, 101, 100]⟩
  | _ => ⟨#[]⟩
theorem parts (a : Int) : (inB a 0 11 = false ∧ name a = ⟨#[]⟩) ∨ a = 0 ∨ a = 1 ∨ a = 2 ∨ a = 3 ∨ a = 4 ∨ a = 5 ∨ a = 6 ∨ a = 7 ∨ a = 8 ∨ a = 9 ∨ a = 10 ∨ a = 11 := by
  by_cases h : 0 ≤ a ∧ a ≤ 11
  · right; omega
  · left; refine ⟨inB_f (by omega), ?_⟩; unfold name; split <;> first | omega | rfl
theorem b0 : inB 0 0 11 = true := rfl
theorem b1 : inB 1 0 11 = true := rfl
theorem b2 : inB 2 0 11 = true := rfl
theorem b3 : inB 3 0 11 = true := rfl
theorem b4 : inB 4 0 11 = true := rfl
theorem b5 : inB 5 0 11 = true := rfl
theorem b6 : inB 6 0 11 = true := rfl
theorem b7 : inB 7 0 11 = true := rfl
theorem b8 : inB 8 0 11 = true := rfl
theorem b9 : inB 9 0 11 = true := rfl
theorem b10 : inB 10 0 11 = true := rfl
theorem b11 : inB 11 0 11 = true := rfl
attribute [local go_sem] b0 b1 b2 b3 b4 b5 b6 b7 b8 b9 b10 b11
set_option maxHeartbeats 1000000 in
theorem impl_any (a : Int) (w : World) : Calls Try.prog 20 #[.int .i64 a] w fun e w' => e = .returned (.string (name a)) ∧ Below w.heap.size w w' := by
  rcases parts a with ⟨h, hn⟩ | rfl | rfl | rfl | rfl | rfl | rfl | rfl | rfl | rfl | rfl | rfl | rfl
  · have HN := Lib.hid hn
    clear hn
    go_enter Try.func20, Try.ntmps20
    go_wp2_with (go_at_call 39; refine (within_any _ _ _ _).mono ?_; rintro e w' ⟨rfl, rfl⟩)
    go_ret
    exact ⟨(ret_str HN.out).symm, by repeat (first | exact Below.refl _ _ | apply bl_alloc | apply bl_setNew)⟩
  all_goals
    go_enter Try.func20, Try.ntmps20
    go_wp2_with (go_at_call 39; refine (within_any _ _ _ _).mono ?_; rintro e w' ⟨rfl, rfl⟩)
    go_ret
    exact ⟨rfl, by repeat (first | exact Below.refl _ _ | apply bl_alloc)⟩
set_option maxHeartbeats 1000000 in
theorem core_any (a : Int) (w : World) : Calls Try.prog 19 #[.int .i64 a] w fun e w' => e = .returned (.string (name a)) ∧ Below w.heap.size w w' := by
  rcases parts a with ⟨h, hn⟩ | rfl | rfl | rfl | rfl | rfl | rfl | rfl | rfl | rfl | rfl | rfl | rfl
  · have HN := Lib.hid hn
    clear hn
    go_enter Try.func19, Try.ntmps19
    go_wp2_with (go_at_call 38; refine (l00In_any _ _ _ _).mono ?_; rintro e w' ⟨rfl, rfl⟩)
    go_ret
    exact ⟨(ret_str HN.out).symm, by repeat (first | exact Below.refl _ _ | apply bl_alloc | apply bl_setNew)⟩
  all_goals
    go_enter Try.func19, Try.ntmps19
    go_wp2_with (go_at_call 38; refine (l00In_any _ _ _ _).mono ?_; rintro e w' ⟨rfl, rfl⟩)
    go_ret
    exact ⟨rfl, by repeat (first | exact Below.refl _ _ | apply bl_alloc)⟩
theorem walk (a0 : Int) (w0 : (Lit.int .i64 a0).wf = true) (w : World) :
    Calls Try.prog 6 #[.int .i64 a0] w fun e w' => e = .returned (.bool true) ∧ Below w.heap.size w w' := by
  clear w0
  go_enter Try.func6, Try.ntmps6
  go_wp2_with (first | (go_at_call 19; refine (core_any _ _).mono ?_; rintro e w1 ⟨rfl, hb1⟩) | (go_at_call 20; refine (impl_any _ _).mono ?_; rintro e w2 ⟨rfl, hb2⟩))
  go_ret
  exact ⟨rfl, bl_trans hb1 hb2⟩
theorem own : ownKnob Try.prog.godebug = none := by kernel_rfl
theorem laidOut : laidOutB Try.prog = true := by kernel_rfl
set_option maxRecDepth 100000 in
theorem lifted (os : Os) (started : os.Started) (H : Type) (enc : TypeId × Value → H) :
    ReturnsInHanded {} Try.checked os 6 .any (Rows.fnExactCodeNameSpec.pre6 enc Try.prog Try.f6 Rows.fnExactCodeNameRow.domain false) (Rows.fnExactCodeNameSpec.post enc Try.prog Try.f6 false true false false) := by
  refine returnsInHanded_of_change (C := Try.checked) own started (by kernel_rfl) Try.func6
    (ChangeSpec.witness6 (enc := enc) (C := Try.checked) false ⟨#[], #[.int .i64 0], []⟩ 8 (by kernel_rfl) (by kernel_rfl) (by kernel_rfl) (by kernel_rfl)) ?_
  intro W base args ds gs before hval0 hW hcnd _
  have hval : ∀ (j : Nat) t v, Try.f6.params[j]? = some t → args[j]? = some v → Value.okWide Try.prog W .any base t v := hval0
  have hW' := hW
  obtain ⟨p, q, hA0, hV, rfl, hfz, hnd⟩ := hW
  have hA : DataW.TrodAll enc Try.prog W 0 (fun _ => true) true Try.f6.params.toList args.toList ds p := hA0
  rw [Try.params6] at hA hval
  obtain ⟨v0, vs0, d0, ds0, p0, q0, hargs, rfl, rfl, h0, r0⟩ := trodAll_cons hA
  obtain ⟨rfl, rfl, rfl⟩ := trodAll_nil r0
  obtain rfl : args = #[v0] := by cases args; simp_all
  obtain ⟨rfl, rfl⟩ := trodVars_none hV
  obtain ⟨a0, rfl, rfl, rfl, w0⟩ := open_int Try.underlying2 (hval 0 2 v0 rfl rfl) h0
  clear hA0 hval0
  refine (walk a0 w0 W).mono fun e W' ⟨he, bel⟩ => ?_
  subst he
  exact ⟨_, rfl, _, _, _, [], _, [], hW', trodAll_mk1 (shut_bool Try.underlying4 _), (trodAll_cons_mk (shut_int Try.underlying2 w0) trodAll_mk0), rfl, bel.frame _, fun h => by cases h⟩
theorem over : Rows.fnExactCodeNameRow.holds Try.pinned (OpenSpec.ofChange Rows.fnExactCodeNameSpec) :=
  OpenClaim.holds_of_wide 6 Try.f6 rfl rfl rfl rfl rfl rfl rfl ⟨rfl, rfl, rfl, rfl, rfl⟩ rfl rfl rfl rfl rfl (by kernel_rfl) Try.func6 (by kernel_rfl)
    (of_decide_eq_true (by kernel_rfl)) (by unfold Func.isWrapper; first | (rw [if_pos (by decide +kernel)]; kernel_rfl) | (rw [if_neg (by decide +kernel)]; exact ⟨rfl, rfl⟩))
    (fun os started H enc _ => lifted os started H enc)
theorem proved : Rows.FnExactCodeNameSaid := over
#print axioms proved
end Go.Proofs.Ytclbbobcdegcbaa.fnExactCodeName
