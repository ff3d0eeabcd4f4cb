/- Two lists of layers held against each other: the contracts of the reference's l03Same and of the program's slices.Equal. -/
import Derived.Test.YtgjdljfhdaeeeaaLyS
import Derived.Laws.StructEq
namespace Go.Proofs.Ytgjdljfhdaeeeaa
open Go.ChangeShapes Go.WideShapes Go.ChangeAt Go.RowKit Go.Joins Go.Deep
set_option linter.unusedVariables false
def sameB (x y : Ly) : Bool := decide (x.form = y.form ∧ x.ice = y.ice ∧ x.water = y.water ∧ x.dens = y.dens ∧ x.deg = y.deg ∧ x.hard = y.hard ∧ x.age = y.age)
def sameL : List Ly → List Ly → Bool
  | [], [] => true
  | x :: a, y :: b => sameB x y && sameL a b
  | _, _ => false
theorem neq_ly (x y : Ly) (w : World) : (binOp .neq 26 (.agg #[.int .i64 x.form, .int .i64 x.ice, .int .i64 x.water, .int .i64 x.dens, .int .i64 x.deg, .int .i64 x.hard, .int .i64 x.age]) (.agg #[.int .i64 y.form, .int .i64 y.ice, .int .i64 y.water, .int .i64 y.dens, .int .i64 y.deg, .int .i64 y.hard, .int .i64 y.age])).run Try.prog w = .ok (.bool (!sameB x y)) w := by
  have hp : Try.prog.stoodInHeld 26 = false := by kernel_rfl
  have ht : Try.prog.underlying 26 = some (.struct (Try.prog.fieldsOf 26)) := by kernel_rfl
  have pk : Try.prog.plainKey 2 = true := by kernel_rfl
  rw [run_neq_struct, run_equalIn_agg w 9999 26 _ _ ht hp]
  simp only [Program.fieldsOf, Try.underlying26]
  simp [Op.eqFields, go_sem]
  unfold sameB
  by_cases e0 : x.form = y.form
  · by_cases e1 : x.ice = y.ice
    · by_cases e2 : x.water = y.water
      · by_cases e3 : x.dens = y.dens
        · by_cases e4 : x.deg = y.deg
          · by_cases e5 : x.hard = y.hard
            · by_cases e6 : x.age = y.age
              · simp [e0, e1, e2, e3, e4, e5, e6]
              · simp [e0, e1, e2, e3, e4, e5, e6]
            · simp [e0, e1, e2, e3, e4, e5]
          · simp [e0, e1, e2, e3, e4]
        · simp [e0, e1, e2, e3]
      · simp [e0, e1, e2]
    · simp [e0, e1]
  · simp [e0]
theorem sameL_len : ∀ (a b : List Ly), a.length ≠ b.length → sameL a b = false
  | [], [], h => absurd rfl h
  | [], _ :: _, _ => rfl
  | _ :: _, [], _ => rfl
  | x :: a, y :: b, h => by
    have := sameL_len a b (fun e => h (by simp [e]))
    simp [sameL, this]
theorem sameL_at : ∀ (a b : List Ly) (k : Nat) (h : k < a.length) (g : k < b.length), sameB a[k] b[k] = false → sameL a b = false
  | x :: a, y :: b, 0, _, _, h => by simp at h; simp [sameL, h]
  | x :: a, y :: b, k + 1, h, g, e => by
    have := sameL_at a b k (by simpa using h) (by simpa using g) (by simpa using e)
    simp [sameL, this]
theorem sameL_all : ∀ (a b : List Ly), a.length = b.length → (∀ k (h : k < a.length) (g : k < b.length), sameB a[k] b[k] = true) → sameL a b = true
  | [], [], _, _ => rfl
  | [], _ :: _, h, _ => by simp at h
  | _ :: _, [], h, _ => by simp at h
  | x :: a, y :: b, h, e => by
    have h0 := e 0 (by simp) (by simp)
    have := sameL_all a b (by simpa using h) (fun k h g => by have := e (k + 1) (by simpa using h) (by simpa using g); simpa using this)
    simp at h0
    simp [sameL, this, h0]
theorem l03Same_any (A B : Option Addr) (c d : Nat) (a b : List Ly) (w : World) (hA : RdL w A a) (hB : RdL w B b) (hn : a.length ≤ 1048576) (hm : b.length ≤ 1048576) :
    Calls Try.prog 44 #[.slice A a.length c, .slice B b.length d] w fun e w' => e = .returned (.bool (sameL a b)) ∧ Below w.heap.size w w' := by
  have hg : Try.prog.eqGuardType Try.prog.depth 26 = false := by kernel_rfl
  by_cases hl : a.length = b.length
  · have hl' : ((a.length : Int) != (b.length : Int)) = false := by rw [bne_eq_false_iff_eq]; omega
    have HL := Lib.hid hl
    clear hl
    go_enter Try.func44, Try.ntmps44
    go_wp2_with fail
    go_loopw [5] (fun i wr => ∃ k : Nat, k ≤ a.length ∧ i = .int .i64 k ∧ (∀ j (h : j < a.length) (g : j < b.length), j < k → sameB a[j] b[j] = true) ∧ Below w.heap.size w wr) (fun i _ => a.length - (intOf i).toNat)
    case atStart => exact ⟨0, Nat.zero_le _, rfl, fun j _ _ h => absurd h (by omega), Below.refl _ _⟩
    case round =>
      obtain ⟨k, hk, rfl, hs, hb⟩ := hrel
      have HS := Lib.hid hs
      clear hs
      by_cases hlt : k < a.length
      · have hlt2 : k < b.length := by have := HL.out; omega
        obtain ⟨g, o, rfl, hx⟩ := (hA.below hb).at_ k hlt
        obtain ⟨g', o', rfl, hy⟩ := (hB.below hb).at_ k hlt2
        obtain ⟨c0, c1, c2, c3, c4, c5, c6⟩ := hx
        obtain ⟨d0, d1, d2, d3, d4, d5, d6⟩ := hy
        have hq := neq_ly a[k] b[k]
        rcases he : sameB a[k] b[k] with _ | _
        · have HE := Lib.hid (sameL_at a b k hlt hlt2 he)
          go_wp2_with fail
          go_still_tail 8, (by kernel_rfl)
          go_wp2_with fail
          go_ret
          exact ⟨(ret_bool HE.out).symm, hb.drew⟩
        · have HE := Lib.hid he
          go_wp2_with fail
          go_still_tail 8, (by kernel_rfl)
          go_wp2_with fail
          go_roundw
          case rel => exact ⟨k + 1, by omega, by go_num, fun j h g hj => by
            rcases Nat.lt_or_ge j k with hjk | hjk
            · exact HS.out j h g hjk
            · obtain rfl : j = k := by omega
              exact HE.out, hb.drew⟩
          case measure => simp [intOf]; omega
      · obtain rfl : k = a.length := by omega
        have HE := Lib.hid (sameL_all a b HL.out (fun j h g => HS.out j h g h))
        go_wp2_with fail
        go_ret
        exact ⟨(ret_bool HE.out).symm, hb⟩
  · have hl' : ((a.length : Int) != (b.length : Int)) = true := by rw [bne_iff_ne]; omega
    have HE := Lib.hid (sameL_len a b hl)
    clear hl
    go_enter Try.func44, Try.ntmps44
    go_wp2_with fail
    go_ret
    exact ⟨(ret_bool HE.out).symm, Below.refl _ _⟩
theorem equal_any (A B : Option Addr) (c d : Nat) (a b : List Ly) (w : World) (hA : RdL w A a) (hB : RdL w B b) (hn : a.length ≤ 1048576) (hm : b.length ≤ 1048576) :
    Calls Try.prog 45 #[.slice A a.length c, .slice B b.length d] w fun e w' => e = .returned (.bool (sameL a b)) ∧ Below w.heap.size w w' := by
  have hg : Try.prog.eqGuardType Try.prog.depth 26 = false := by kernel_rfl
  by_cases hl : a.length = b.length
  · have hl' : ((a.length : Int) != (b.length : Int)) = false := by rw [bne_eq_false_iff_eq]; omega
    have HL := Lib.hid hl
    clear hl
    go_enter Try.func45, Try.ntmps45
    go_wp2_with fail
    go_loopw [13] (fun i wr => ∃ k : Nat, k ≤ a.length ∧ i = .int .i64 k ∧ (∀ j (h : j < a.length) (g : j < b.length), j < k → sameB a[j] b[j] = true) ∧ Below w.heap.size w wr) (fun i _ => a.length - (intOf i).toNat)
    case atStart => exact ⟨0, Nat.zero_le _, rfl, fun j _ _ h => absurd h (by omega), Below.refl _ _⟩
    case round =>
      obtain ⟨k, hk, rfl, hs, hb⟩ := hrel
      have HS := Lib.hid hs
      clear hs
      by_cases hlt : k < a.length
      · have hlt2 : k < b.length := by have := HL.out; omega
        obtain ⟨g, o, rfl, hx⟩ := (hA.below hb).at_ k hlt
        obtain ⟨g', o', rfl, hy⟩ := (hB.below hb).at_ k hlt2
        obtain ⟨c0, c1, c2, c3, c4, c5, c6⟩ := hx
        obtain ⟨d0, d1, d2, d3, d4, d5, d6⟩ := hy
        have hq := neq_ly a[k] b[k]
        rcases he : sameB a[k] b[k] with _ | _
        · have HE := Lib.hid (sameL_at a b k hlt hlt2 he)
          go_wp2_with fail
          go_still_tail 8, (by kernel_rfl)
          go_wp2_with fail
          go_ret
          exact ⟨(ret_bool HE.out).symm, hb.drew⟩
        · have HE := Lib.hid he
          go_wp2_with fail
          go_still_tail 8, (by kernel_rfl)
          go_wp2_with fail
          go_roundw
          case rel => exact ⟨k + 1, by omega, by go_num, fun j h g hj => by
            rcases Nat.lt_or_ge j k with hjk | hjk
            · exact HS.out j h g hjk
            · obtain rfl : j = k := by omega
              exact HE.out, hb.drew⟩
          case measure => simp [intOf]; omega
      · obtain rfl : k = a.length := by omega
        have HE := Lib.hid (sameL_all a b HL.out (fun j h g => HS.out j h g h))
        go_wp2_with fail
        go_ret
        exact ⟨(ret_bool HE.out).symm, hb⟩
  · have hl' : ((a.length : Int) != (b.length : Int)) = true := by rw [bne_iff_ne]; omega
    have HE := Lib.hid (sameL_len a b hl)
    clear hl
    go_enter Try.func45, Try.ntmps45
    go_wp2_with fail
    go_ret
    exact ⟨(ret_bool HE.out).symm, Below.refl _ _⟩
end Go.Proofs.Ytgjdljfhdaeeeaa
