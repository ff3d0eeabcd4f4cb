/- The law FnExactFormName holds: the program's FormName returns what the reference's returns, for every int64. No condition. -/
import Derived.Test.YtclbbobcdegcbaaBase
namespace Go.Proofs.Ytclbbobcdegcbaa.fnExactFormName
open Go.ChangeShapes Go.WideShapes Go.ChangeAt Go.RowKit
open Go.ChangeMaps (open_string shut_string)
set_option linter.unusedVariables false
def name : Int → ByteArray
  | 1 => ⟨#[110, 101, 119]⟩
  | 2 => ⟨#[98, 114, 111, 107, 101, 110]⟩
  | 3 => ⟨#[114, 111, 117, 110, 100]⟩
  | 4 => ⟨#[102, 97, 99, 101, 116]⟩
  | 5 => ⟨#[104, 111, 97, 114]⟩
  | 6 => ⟨#[109, 101, 108, 116]⟩
  | _ => ⟨#[]⟩
theorem part6 (a : Int) : (inB a 1 6 = false ∧ name a = ⟨#[]⟩) ∨ a = 1 ∨ a = 2 ∨ a = 3 ∨ a = 4 ∨ a = 5 ∨ a = 6 := by
  by_cases h : 1 ≤ a ∧ a ≤ 6
  · right; omega
  · left; refine ⟨inB_f (by omega), ?_⟩; unfold name; split <;> first | omega | rfl
theorem idxT (cs : Array Value) (i : Int) (w : World) (hc : cs.size = 7) (h0 : 0 ≤ i) (h1 : i < 7) :
    (Instr.index 40 (.agg cs) (.int .i64 i)).run Try.prog w = .ok (cs.getD i.toNat undef) w :=
  index_arr Try.underlying40 (by kernel_rfl) (by kernel_rfl) cs i w hc h0 h1
attribute [local go_sem] idxT
theorem b1 : inB 1 1 6 = true := rfl
theorem b2 : inB 2 1 6 = true := rfl
theorem b3 : inB 3 1 6 = true := rfl
theorem b4 : inB 4 1 6 = true := rfl
theorem b5 : inB 5 1 6 = true := rfl
theorem b6 : inB 6 1 6 = true := rfl
attribute [local go_sem] b1 b2 b3 b4 b5 b6
theorem impl_any (a : Int) (w : World) : Calls Try.prog 16 #[.int .i64 a] w fun e w' => e = .returned (.string (name a)) ∧ Below w.heap.size w w' := by
  rcases part6 a with ⟨h, hn⟩ | rfl | rfl | rfl | rfl | rfl | rfl
  · have HN := Lib.hid hn
    clear hn
    go_enter Try.func16, Try.ntmps16
    go_wp2_with (go_at_call 39; refine (within_any _ _ _ _).mono ?_; rintro e w' ⟨rfl, rfl⟩)
    go_ret
    exact ⟨(ret_str HN.out).symm, Below.refl _ _⟩
  all_goals
    go_enter Try.func16, Try.ntmps16
    go_wp2_with (go_at_call 39; refine (within_any _ _ _ _).mono ?_; rintro e w' ⟨rfl, rfl⟩)
    go_ret
    exact ⟨rfl, by repeat (first | exact Below.refl _ _ | apply bl_alloc)⟩
theorem spec_any (a : Int) (w : World) : Calls Try.prog 15 #[.int .i64 a] w fun e w' => e = .returned (.string (name a)) ∧ Below w.heap.size w w' := by
  rcases part6 a with ⟨h, hn⟩ | rfl | rfl | rfl | rfl | rfl | rfl
  · have HN := Lib.hid hn
    clear hn
    go_enter Try.func15, Try.ntmps15
    go_wp2_with (go_at_call 38; refine (l00In_any _ _ _ _).mono ?_; rintro e w' ⟨rfl, rfl⟩)
    go_ret
    exact ⟨(ret_str HN.out).symm, Below.refl _ _⟩
  all_goals
    go_enter Try.func15, Try.ntmps15
    go_wp2_with (go_at_call 38; refine (l00In_any _ _ _ _).mono ?_; rintro e w' ⟨rfl, rfl⟩)
    go_ret
    exact ⟨rfl, by repeat (first | exact Below.refl _ _ | apply bl_alloc)⟩
theorem walk (a0 : Int) (w0 : (Lit.int .i64 a0).wf = true) (w : World) :
    Calls Try.prog 4 #[.int .i64 a0] w fun e w' => e = .returned (.bool true) ∧ Below w.heap.size w w' := by
  clear w0
  go_enter Try.func4, Try.ntmps4
  go_wp2_with (first | (go_at_call 15; refine (spec_any _ _).mono ?_; rintro e w1 ⟨rfl, hb1⟩) | (go_at_call 16; refine (impl_any _ _).mono ?_; rintro e w2 ⟨rfl, hb2⟩))
  go_ret
  exact ⟨rfl, bl_trans hb1 hb2⟩
theorem own : ownKnob Try.prog.godebug = none := by kernel_rfl
theorem laidOut : laidOutB Try.prog = true := by kernel_rfl
set_option maxRecDepth 100000 in
theorem lifted (os : Os) (started : os.Started) (H : Type) (enc : TypeId × Value → H) :
    ReturnsInHanded {} Try.checked os 4 .any (Rows.fnExactFormNameSpec.pre6 enc Try.prog Try.f4 Rows.fnExactFormNameRow.domain false) (Rows.fnExactFormNameSpec.post enc Try.prog Try.f4 false true false false) := by
  refine returnsInHanded_of_change (C := Try.checked) own started (by kernel_rfl) Try.func4
    (ChangeSpec.witness6 (enc := enc) (C := Try.checked) false ⟨#[], #[.int .i64 0], []⟩ 8 (by kernel_rfl) (by kernel_rfl) (by kernel_rfl) (by kernel_rfl)) ?_
  intro W base args ds gs before hval0 hW hcnd _
  have hval : ∀ (j : Nat) t v, Try.f4.params[j]? = some t → args[j]? = some v → Value.okWide Try.prog W .any base t v := hval0
  have hW' := hW
  obtain ⟨p, q, hA0, hV, rfl, hfz, hnd⟩ := hW
  have hA : DataW.TrodAll enc Try.prog W 0 (fun _ => true) true Try.f4.params.toList args.toList ds p := hA0
  rw [Try.params4] at hA hval
  obtain ⟨v0, vs0, d0, ds0, p0, q0, hargs, rfl, rfl, h0, r0⟩ := trodAll_cons hA
  obtain ⟨rfl, rfl, rfl⟩ := trodAll_nil r0
  obtain rfl : args = #[v0] := by cases args; simp_all
  obtain ⟨rfl, rfl⟩ := trodVars_none hV
  obtain ⟨a0, rfl, rfl, rfl, w0⟩ := open_int Try.underlying2 (hval 0 2 v0 rfl rfl) h0
  clear hA0 hval0
  refine (walk a0 w0 W).mono fun e W' ⟨he, bel⟩ => ?_
  subst he
  exact ⟨_, rfl, _, _, _, [], _, [], hW', trodAll_mk1 (shut_bool Try.underlying4 _), (trodAll_cons_mk (shut_int Try.underlying2 w0) trodAll_mk0), rfl, bel.frame _, fun h => by cases h⟩
theorem over : Rows.fnExactFormNameRow.holds Try.pinned (OpenSpec.ofChange Rows.fnExactFormNameSpec) :=
  OpenClaim.holds_of_wide 4 Try.f4 rfl rfl rfl rfl rfl rfl rfl ⟨rfl, rfl, rfl, rfl, rfl⟩ rfl rfl rfl rfl rfl (by kernel_rfl) Try.func4 (by kernel_rfl)
    (of_decide_eq_true (by kernel_rfl)) (by unfold Func.isWrapper; first | (rw [if_pos (by decide +kernel)]; kernel_rfl) | (rw [if_neg (by decide +kernel)]; exact ⟨rfl, rfl⟩))
    (fun os started H enc _ => lifted os started H enc)
theorem proved : Rows.FnExactFormNameSaid := over
#print axioms proved
end Go.Proofs.Ytclbbobcdegcbaa.fnExactFormName
