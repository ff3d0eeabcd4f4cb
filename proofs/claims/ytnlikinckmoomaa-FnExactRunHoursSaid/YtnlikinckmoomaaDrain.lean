/- Water that runs down through layers: plain laws, and the contracts of the program's and of the reference's DrainProfile and what they call. -/
import Derived.Test.YtnlikinckmoomaaInp
namespace Go.Proofs.Ytnlikinckmoomaa
open Go.ChangeShapes Go.WideShapes Go.ChangeAt Go.RowKit Go.Joins Go.Deep
set_option linter.unusedVariables false
def keepF (x : Ly) (wt : Int) : Int := minI (x.water + wt) (x.ice * 60 / 1000)
def drainA : List Ly → Int × List Ly
  | [] => (0, [])
  | x :: l => (x.water + (drainA l).1 - keepF x (drainA l).1, x.put 2 (keepF x (drainA l).1) :: (drainA l).2)
theorem keepF_bd {x : Ly} (h : LyB x) {wt : Int} (h0 : 0 ≤ wt) : 0 ≤ keepF x wt ∧ keepF x wt ≤ 60000 ∧ keepF x wt ≤ x.water + wt := by
  have := h.w0
  have := h.i0
  have := h.i1
  unfold keepF minI
  split <;> omega
theorem drainA_len (ls : List Ly) : (drainA ls).2.length = ls.length := by
  induction ls with
  | nil => rfl
  | cons x l ih => simp [drainA, ih]
theorem LyB.put_water {x : Ly} (h : LyB x) (v : Int) (h0 : 0 ≤ v) (h1 : v ≤ 1000000) : LyB (x.put 2 v) := ⟨h.f0, h.f1, h.i0, h.i1, h0, h1, h.d0, h.d1, h.g0, h.g1, h.h0, h.h1, h.a0, h.a1⟩
theorem drainA_bd : ∀ (ls : List Ly), (∀ x ∈ ls, LyB x) → 0 ≤ (drainA ls).1 ∧ (drainA ls).1 ≤ 1000000 * ls.length ∧ ∀ y ∈ (drainA ls).2, LyB y
  | [], _ => by simp [drainA]
  | x :: l, h => by
    obtain ⟨a, b, c⟩ := drainA_bd l (fun y hy => h y (by simp [hy]))
    have hx := h x (by simp)
    obtain ⟨k0, k1, k2⟩ := keepF_bd hx a
    have := hx.w1
    have e : ((x :: l).length : Int) = (l.length : Int) + 1 := by simp
    simp only [drainA]
    refine ⟨by omega, by rw [e]; omega, fun y hy => ?_⟩
    simp only [List.mem_cons] at hy
    rcases hy with rfl | hy
    · exact hx.put_water _ k0 (by omega)
    · exact c y hy
theorem drain_VL {ls : List Ly} (V : VL ls) : VL (drainA ls).2 := VL.of_mem (by rw [drainA_len]; exact V.len) (drainA_bd ls V.mem).2.2
theorem VL.mem_drop {ls : List Ly} (h : VL ls) (k : Nat) (x : Ly) (hx : x ∈ ls.drop k) : LyB x := h.mem x (List.mem_of_mem_drop hx)
theorem drain_drop {ls : List Ly} (V : VL ls) (k : Nat) : 0 ≤ (drainA (ls.drop k)).1 ∧ (drainA (ls.drop k)).1 ≤ 16000000 := by
  obtain ⟨a, b, _⟩ := drainA_bd (ls.drop k) (V.mem_drop k)
  have := V.len
  have e : (ls.drop k).length ≤ 16 := by rw [List.length_drop]; omega
  omega
theorem drain_at (ls : List Ly) (k : Nat) (h : k < ls.length) : drainA (ls.drop k) = (ls[k].water + (drainA (ls.drop (k + 1))).1 - keepF ls[k] (drainA (ls.drop (k + 1))).1, ls[k].put 2 (keepF ls[k] (drainA (ls.drop (k + 1))).1) :: (drainA (ls.drop (k + 1))).2) := by
  rw [drop_at ls k h]; rfl
def DrainR (w : World) (g : Nat) (ls : List Ly) (q i : Value) (wr : World) : Prop := ∃ n : Int, i = .int .i64 n ∧ -1 ≤ n ∧ n < ls.length ∧ q = .int .i64 (drainA (ls.drop (n + 1).toNat)).1 ∧ OwnL wr g 45 (ls.take (n + 1).toNat ++ (drainA (ls.drop (n + 1).toNat)).2) ∧ w.grownBy wr (some g)
theorem DrainR.start {w : World} {g : Nat} {ls : List Ly} (h : OwnL w g 45 ls) : DrainR w g ls (.int .i64 0) (.int .i64 ((ls.length : Int) - 1)) w := by
  have e : ((ls.length : Int) - 1 + 1).toNat = ls.length := by omega
  refine ⟨_, rfl, by omega, by omega, ?_, ?_, only_refl _ _⟩
  · rw [e, List.drop_length]; rfl
  · rw [e, List.drop_length, List.take_length]; simpa [drainA] using h
theorem DrainR.next {w wr wr' : World} {g : Nat} {ls : List Ly} {k : Nat} (hk : k < ls.length) (hg : w.grownBy wr' (some g))
    (ho : OwnL wr' g 45 (ls.take k ++ ls[k].put 2 (keepF ls[k] (drainA (ls.drop (k + 1))).1) :: (drainA (ls.drop (k + 1))).2)) :
    DrainR w g ls (.int .i64 (ls[k].water + (drainA (ls.drop (k + 1))).1 - keepF ls[k] (drainA (ls.drop (k + 1))).1)) (.int .i64 ((k : Int) - 1)) wr' := by
  have e : ((k : Int) - 1 + 1).toNat = k := by omega
  refine ⟨_, rfl, by omega, by omega, ?_, ?_, hg⟩
  · rw [e, drain_at ls k hk]
  · rw [e, drain_at ls k hk]; exact ho
theorem min_b {a b : Int} (h : b < a) : minI a b = b := by unfold minI; split <;> omega
theorem min_a {a b : Int} (h : ¬ b < a) : minI a b = a := by unfold minI; split <;> omega
theorem drain_own (g c : Nat) (ls : List Ly) (w : World) (h : OwnL w g 45 ls) (V : VL ls) :
    Calls Try.prog 48 #[.slice (some ⟨g, 0, none⟩) ls.length c] w fun e w' => e = .returned (.int .i64 (drainA ls).1) ∧ OwnL w' g 45 (drainA ls).2 ∧ w.grownBy w' (some g) := by
  have h16 := V.len
  have hD := DrainR.start h
  go_enter Try.func48, Try.ntmps48
  go_wp2_with fail
  go_loopw [3, 4] (DrainR w g ls) (fun _ i _ => (intOf i + 1).toNat)
  case atStart => exact hD
  case round =>
    obtain ⟨n, rfl, n0, n1, rfl, ho, hg⟩ := hrel
    clear hD
    by_cases hneg : n < 0
    · obtain rfl : n = -1 := by omega
      go_wp2_with fail
      go_ret
      have e : ((-1 : Int) + 1).toNat = 0 := rfl
      rw [e] at ho
      exact ⟨ret_int (by rw [e]; rfl), by simpa using ho, hg⟩
    · obtain ⟨k, rfl⟩ := Int.eq_ofNat_of_zero_le (show 0 ≤ n by omega)
      have hk : k < ls.length := by omega
      have e : ((k : Int) + 1).toNat = k + 1 := by omega
      rw [e] at ho ⊢
      have hB := V.get k hk
      have hx := ho.at_ (cur_at ls _ k hk)
      obtain ⟨q0, q1⟩ := drain_drop V (k + 1)
      have hf := ho.frozen (k * 7 + 2)
      have hst := fun wt => OwnL.put ho hk ls[k] 2 (by omega) wt
      have HST := Lib.hid hst
      have hnx := fun w' h1 h2 => DrainR.next (w := w) (wr := wr) (wr' := w') (g := g) hk h1 h2
      have HN := Lib.hid hnx
      have HG := Lib.hid hg
      clear hst hnx ho hg
      obtain ⟨y0, y1⟩ : 0 ≤ ls[k].water ∧ ls[k].water ≤ 1000000 := ⟨hB.w0, hB.w1⟩
      obtain ⟨z0, z1⟩ : 1 ≤ ls[k].ice ∧ ls[k].ice ≤ 1000000 := ⟨hB.i0, hB.i1⟩
      have HK : Hid (keepF ls[k] (drainA (ls.drop (k + 1))).1 = minI (ls[k].water + (drainA (ls.drop (k + 1))).1) (ls[k].ice * 60 / 1000)) := rfl
      obtain ⟨c0, c1, c2, c3, c4, c5, c6⟩ := hx
      generalize (drainA (ls.drop (k + 1))).1 = wt at *
      generalize (drainA (ls.drop (k + 1))).2 = L at *
      generalize ls[k] = x at *
      by_cases hm : x.ice * 60 / 1000 < x.water + wt
      · have HE := Lib.hid (HK.out.trans (min_b hm))
        go_wp2_with fail
        clear c0 c1 c2 c3 c4 c5 c6 hf
        go_roundw
        case rel =>
          rw [← HE.out]
          exact HN.out _ (only_set HG.out _ _) (HST.out _)
        case measure => (simp [intOf]; try omega)
      · have HE := Lib.hid (HK.out.trans (min_a hm))
        go_wp2_with fail
        clear c0 c1 c2 c3 c4 c5 c6 hf
        go_roundw
        case rel =>
          have hN := HN.out _ (only_set HG.out _ _) (HST.out _)
          rw [HE.out, Int.sub_self] at hN
          exact hN
        case measure => (simp [intOf]; try omega)
theorem drain_nil (A : Option Addr) (c : Nat) (w : World) :
    Calls Try.prog 48 #[.slice A 0 c] w fun e w' => e = .returned (.int .i64 0) ∧ w = w' := by
  go_enter Try.func48, Try.ntmps48
  go_wp2_with fail
  go_loop [3, 4] (fun q i => q = .int .i64 0 ∧ i = .int .i64 (-1)) (fun _ _ => 0)
  case atStart => exact ⟨rfl, rfl⟩
  case round =>
    obtain ⟨rfl, rfl⟩ := hrel
    go_wp2_with fail
    go_ret
    exact ⟨rfl, rfl⟩
/-- The call returns a number and turns the list, in place, into ms. -/
def TurnsL (w : World) (B : Nat) (A : Option Addr) (q : Int) (ms : List Ly) (e : Ending) (w' : World) : Prop := e = .returned (.int .i64 q) ∧ OwnO w' B A ms ∧ Below B w w'
theorem drain_any (A : Option Addr) (c B : Nat) (ls : List Ly) (w : World) (h : OwnO w B A ls) (hB : B ≤ w.heap.size) (V : VL ls) :
    Calls Try.prog 48 #[.slice A ls.length c] w (TurnsL w B A (drainA ls).1 (drainA ls).2) := by
  rcases h with rfl | ⟨g, rfl, hg, h⟩
  · exact (drain_nil A c w).mono fun e w' ⟨he, hw⟩ => ⟨he, .inl rfl, hw ▸ Below.refl _ _⟩
  · exact (drain_own g c ls w h V).mono fun e w' ⟨he, h1, h2⟩ => ⟨he, OwnO.changed hg hB h1 h2⟩
/-- The call returns a list of its own and a number. -/
def GivesLV (w : World) (R : List Ly) (q : Int) (e : Ending) (w' : World) : Prop := ∃ v, e = .returned (.tuple #[v, .int .i64 q]) ∧ (∃ A c, v = .slice A R.length c ∧ R.length ≤ c ∧ OwnO w' w.heap.size A R) ∧ Below w.heap.size w w'
def DrainS (w : World) (B : Nat) (A : Option Addr) (ls : List Ly) (q i : Value) (wr : World) : Prop := ∃ n : Int, i = .int .i64 n ∧ -1 ≤ n ∧ n < ls.length ∧ q = .int .i64 (drainA (ls.drop (n + 1).toNat)).1 ∧ OwnO wr B A (ls.take (n + 1).toNat ++ (drainA (ls.drop (n + 1).toNat)).2) ∧ Below B w wr
theorem l05Drain_any (A : Option Addr) (c : Nat) (ls : List Ly) (w : World) (hr : RdL w A ls) (V : VL ls) :
    Calls Try.prog 46 #[.slice A ls.length c] w (GivesLV w (drainA ls).2 (drainA ls).1) := by
  have h16 := V.len
  go_enter Try.func46, Try.ntmps46
  go_wp2_with fail
  refine (l05Own_any A c ls w hr (by omega)).mono ?_
  rintro e w1 ⟨v1, rfl, hs1, hb1⟩
  obtain ⟨A1, c1, rfl, ho1⟩ := hs1.out
  have hcap := hs1.cap
  have hD : DrainS w w.heap.size A1 ls (.int .i64 0) (.int .i64 ((ls.length : Int) - 1)) w1 := by
    have e : ((ls.length : Int) - 1 + 1).toNat = ls.length := by omega
    refine ⟨_, rfl, by omega, by omega, ?_, ?_, hb1⟩
    · rw [e, List.drop_length]; rfl
    · rw [e, List.drop_length, List.take_length]; simpa [drainA] using ho1
  go_wp2_with fail
  go_loopw [5, 6] (DrainS w w.heap.size A1 ls) (fun _ i _ => (intOf i + 1).toNat)
  case atStart => exact hD
  case round =>
    obtain ⟨n, rfl, n0, n1, rfl, ho, hb⟩ := hrel
    clear hD
    by_cases hneg : n < 0
    · obtain rfl : n = -1 := by omega
      go_wp2_with fail
      go_ret2
      have e : ((-1 : Int) + 1).toNat = 0 := rfl
      rw [e] at ho
      exact ⟨_, rfl, ⟨A1, c1, by rw [drainA_len]; rfl, by rw [drainA_len]; exact hcap, by simpa using ho⟩, hb⟩
    · obtain ⟨k, rfl⟩ := Int.eq_ofNat_of_zero_le (show 0 ≤ n by omega)
      have hk : k < ls.length := by omega
      have e : ((k : Int) + 1).toNat = k + 1 := by omega
      rw [e] at ho ⊢
      have hB := V.get k hk
      rcases ho with ho | ⟨g, rfl, hBg, ho⟩
      · have h2 := cur_at ls (drainA (ls.drop (k + 1))).2 k hk
        rw [ho] at h2
        simp at h2
      have hx := ho.at_ (cur_at ls _ k hk)
      obtain ⟨q0, q1⟩ := drain_drop V (k + 1)
      have hf := ho.frozen (k * 7 + 2)
      have HST := Lib.hid (fun wt => OwnL.put ho hk ls[k] 2 (by omega) wt)
      have hnx : ∀ w' : World, Below w.heap.size w w' → OwnL w' g 45 (ls.take k ++ ls[k].put 2 (keepF ls[k] (drainA (ls.drop (k + 1))).1) :: (drainA (ls.drop (k + 1))).2) →
          DrainS w w.heap.size (some ⟨g, 0, none⟩) ls (.int .i64 (ls[k].water + (drainA (ls.drop (k + 1))).1 - keepF ls[k] (drainA (ls.drop (k + 1))).1)) (.int .i64 ((k : Int) - 1)) w' := fun w' h1 h2 => by
        have e : ((k : Int) - 1 + 1).toNat = k := by omega
        refine ⟨_, rfl, by omega, by omega, ?_, .inr ⟨g, rfl, hBg, ?_⟩, h1⟩
        · rw [e, drain_at ls k hk]
        · rw [e, drain_at ls k hk]; exact h2
      have HN := Lib.hid hnx
      have HB := Lib.hid hb
      clear hnx ho hb
      obtain ⟨y0, y1⟩ : 0 ≤ ls[k].water ∧ ls[k].water ≤ 1000000 := ⟨hB.w0, hB.w1⟩
      obtain ⟨z0, z1⟩ : 1 ≤ ls[k].ice ∧ ls[k].ice ≤ 1000000 := ⟨hB.i0, hB.i1⟩
      obtain ⟨k0, k1, k2⟩ := keepF_bd hB q0
      have HK : minI (ls[k].water + (drainA (ls.drop (k + 1))).1) (ls[k].ice * 60 / 1000) = keepF ls[k] (drainA (ls.drop (k + 1))).1 := rfl
      obtain ⟨c0, c1, c2, c3, c4, c5, c6⟩ := hx
      generalize (drainA (ls.drop (k + 1))).1 = wt at *
      generalize (drainA (ls.drop (k + 1))).2 = L at *
      generalize ls[k] = x at *
      generalize keepF x wt = kp at *
      go_wp2_with (go_at_call 65; refine (l00Min_any _ _ _).mono ?_; rintro e w' ⟨rfl, rfl⟩)
      clear c0 c1 c2 c3 c4 c5 c6 hf
      go_roundw
      case rel => exact HN.out _ (bl_set HB.out _ _ hBg _) (HST.out _)
      case measure => (simp [intOf]; try omega)
/-- The call returns a list of its own, a number and a code. -/
def GivesLVC (w : World) (R : List Ly) (q code : Int) (e : Ending) (w' : World) : Prop := ∃ v, e = .returned (.tuple #[v, .int .i64 q, .int .i64 code]) ∧ (∃ A c, v = .slice A R.length c ∧ OwnO w' w.heap.size A R) ∧ Below w.heap.size w w'
def drainR (ls : List Ly) : List Ly := if okL ls then (drainA ls).2 else []
def drainV (ls : List Ly) : Int := if okL ls then (drainA ls).1 else 0
theorem drainR_len (ls : List Ly) (hn : ls.length ≤ 1048576) : (drainR ls).length ≤ 1048576 := by
  unfold drainR
  split
  · rw [drainA_len]; exact hn
  · simp
theorem drainR_t {ls : List Ly} (h : okL ls = true) : drainR ls = (drainA ls).2 ∧ drainV ls = (drainA ls).1 ∧ codeOk ls = 0 := by unfold drainR drainV; rw [h]; exact ⟨rfl, rfl, codeOk_t h⟩
theorem drainR_f {ls : List Ly} (h : okL ls = false) : drainR ls = [] ∧ drainV ls = 0 ∧ codeOk ls = 1 := by unfold drainR drainV; rw [h]; exact ⟨rfl, rfl, codeOk_f h⟩
theorem specDrain_any (A : Option Addr) (c : Nat) (ls : List Ly) (w : World) (hr : RdL w A ls) (hn : ls.length ≤ 1048576) :
    Calls Try.prog 18 #[.slice A ls.length c] w (GivesLVC w (drainR ls) (drainV ls) (codeOk ls)) := by
  rcases hok : okL ls with _ | _
  · have F := Lib.hid (drainR_f hok)
    go_enter Try.func18, Try.ntmps18
    go_wp2_with (go_at_call 35; refine (l03Ok_any A c ls _ hr hn).mono ?_; rintro e w' ⟨rfl, rfl⟩)
    go_ret3
    exact ⟨_, by rw [F.out.2.1, F.out.2.2]; rfl, ⟨none, 0, by rw [F.out.1]; rfl, .inl F.out.1⟩, Below.refl _ _⟩
  · have F := Lib.hid (drainR_t hok)
    have V := VL.of_ok hok
    go_enter Try.func18, Try.ntmps18
    go_wp2_with (first | (go_at_call 35; refine (l03Ok_any A c ls _ hr hn).mono ?_; rintro e w' ⟨rfl, rfl⟩) | (go_at_call 46; refine (l05Drain_any A c ls _ hr V).mono ?_; rintro e w1 ⟨v1, rfl, hs1, hb1⟩))
    go_ret3
    obtain ⟨A1, c1, e1, _, ho1⟩ := hs1
    exact ⟨_, by rw [F.out.2.1, F.out.2.2]; rfl, by rw [F.out.1]; exact ⟨A1, c1, e1, ho1⟩, hb1⟩
theorem implDrain_any (A : Option Addr) (c : Nat) (ls : List Ly) (w : World) (hr : RdL w A ls) (hn : ls.length ≤ 1048576) :
    Calls Try.prog 19 #[.slice A ls.length c] w (GivesLVC w (drainR ls) (drainV ls) (codeOk ls)) := by
  rcases hok : okL ls with _ | _
  · have F := Lib.hid (drainR_f hok)
    go_enter Try.func19, Try.ntmps19
    go_wp2_with (go_at_call 40; refine (validProfile_any A c ls _ hr hn).mono ?_; rintro e w1 ⟨rfl, hb1⟩)
    go_ret3
    exact ⟨_, by rw [F.out.2.1, F.out.2.2]; rfl, ⟨none, 0, by rw [F.out.1]; rfl, .inl F.out.1⟩, hb1⟩
  · have F := Lib.hid (drainR_t hok)
    have V := VL.of_ok hok
    go_enter Try.func19, Try.ntmps19
    go_wp2_with fail
    refine (validProfile_any A c ls _ hr hn).mono ?_
    rintro e w1 ⟨rfl, hb1⟩
    go_wp2_with fail
    refine (clone_any A c ls _ (hr.below hb1) hn).mono ?_
    rintro e w2 ⟨v2, rfl, hs2, hb2⟩
    obtain ⟨A2, c2, rfl, ho2⟩ := hs2.out
    go_wp2_with fail
    refine (drain_any A2 c2 w1.heap.size ls _ ho2 hb2.size V).mono ?_
    rintro e w3 ⟨rfl, ho3, hb3⟩
    go_wp2_with fail
    go_ret3
    exact ⟨_, by rw [F.out.2.1, F.out.2.2]; rfl, ⟨A2, c2, by rw [F.out.1, drainA_len]; rfl, by rw [F.out.1]; exact ho3.mono hb1.size⟩, bl_trans hb1 (hb2.trans hb3)⟩
end Go.Proofs.Ytnlikinckmoomaa
