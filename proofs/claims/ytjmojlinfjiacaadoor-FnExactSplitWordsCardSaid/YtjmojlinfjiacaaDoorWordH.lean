/- Lists of strings of the call's own, marked and held by the law's helpers. No condition. -/
import Derived.Test.YtjmojlinfjiacaaDoorWordI
import Derived.StillTailTactics
import Derived.Deep.QuietTactic
import Derived.BigQuiet
import Derived.Deep.Slices
import Derived.RegionTactic
namespace Go.Proofs.YtjmojlinfjiacaaDoor
open Go.ChangeShapes Go.WideShapes Go.ChangeAt Go.RowKit Go.Deep
set_option linter.unusedVariables false
theorem RdT.nil (w : World) (A : Option Addr) : RdT w A [] := fun k x hx => by simp at hx
theorem bl_undrew {w w' : World} (h : Below w.drew.heap.size w.drew w') : Below w.heap.size w w' := (bl_drewN (Below.refl _ _) 1).trans (h.mono (Nat.le_refl _))
theorem grown_below {a w w' : World} {row : Option Nat} (h : a.grownBy w row) (hb : Below w.heap.size w w') : a.grownBy w' row :=
  ⟨hb.os.trans h.os, hb.tape.trans h.tape, hb.output.trans h.output, Nat.le_trans h.size hb.size, fun k hk hne => (hb.block k (Nat.lt_of_lt_of_le hk h.size)).trans (h.block k hk hne)⟩
def OwnW (w : World) (g : Nat) (t : TypeId) (ns : List ByteArray) : Prop := ∃ c : Array Value, w.heap[g]? = some (.cells c t (0, 0)) ∧ ∀ (k : Nat) (x : ByteArray), ns[k]? = some x → c[k]? = some (.string x)
theorem OwnW.lt {w : World} {g : Nat} {t : TypeId} {ns : List ByteArray} (h : OwnW w g t ns) : g < w.heap.size := by
  obtain ⟨c, hc, _⟩ := h
  exact (Array.getElem?_eq_some_iff.1 hc).1
theorem OwnW.of_block {w w' : World} {g : Nat} {t : TypeId} {ns : List ByteArray} (h : OwnW w g t ns) (hb : w'.heap[g]? = w.heap[g]?) : OwnW w' g t ns := by
  obtain ⟨c, hc, hl⟩ := h
  exact ⟨c, hb.trans hc, hl⟩
theorem OwnW.below {w w' : World} {g : Nat} {t : TypeId} {ns : List ByteArray} (h : OwnW w g t ns) (hb : Below w.heap.size w w') : OwnW w' g t ns := h.of_block (hb.block g h.lt)
theorem OwnW.drewN {w : World} {g : Nat} {t : TypeId} {ns : List ByteArray} (h : OwnW w g t ns) (n : Nat) : OwnW (w.drewN n) g t ns := h
theorem OwnW.at_ {w : World} {g : Nat} {t : TypeId} {ns : List ByteArray} (h : OwnW w g t ns) {k : Nat} {x : ByteArray} (hx : ns[k]? = some x) : w.cell? ⟨g, k, none⟩ = some (.string x) := by
  obtain ⟨c, hc, hl⟩ := h
  exact (cell_of_row w g _ c t (0, 0) hc).trans (hl k x hx)
theorem OwnW.rd {w : World} {g : Nat} {t : TypeId} {ns : List ByteArray} (h : OwnW w g t ns) : RdT w (some ⟨g, 0, none⟩) ns := fun k x hx => ⟨g, 0, rfl, by rw [Nat.zero_add]; exact h.at_ hx⟩
theorem OwnW.frozen {w : World} {g : Nat} {t : TypeId} {ns : List ByteArray} (h : OwnW w g t ns) (j : Nat) : w.frozen? ⟨g, j, none⟩ = false := by
  obtain ⟨c, hc, _⟩ := h
  exact frozen_of_row w g j c t hc
/-- n cells, the first k of which are known -/
def MadeW (w : World) (g : Nat) (t : TypeId) (n k : Nat) (ns : List ByteArray) : Prop := ∃ c : Array Value, w.heap[g]? = some (.cells c t (0, 0)) ∧ c.size = n ∧ ∀ i, i < k → ∀ x, ns[i]? = some x → c[i]? = some (.string x)
theorem MadeW.lt {w : World} {g n k : Nat} {t : TypeId} {ns : List ByteArray} (h : MadeW w g t n k ns) : g < w.heap.size := by
  obtain ⟨c, hc, _⟩ := h
  exact (Array.getElem?_eq_some_iff.1 hc).1
theorem MadeW.of_block {w w' : World} {g n k : Nat} {t : TypeId} {ns : List ByteArray} (h : MadeW w g t n k ns) (hb : w'.heap[g]? = w.heap[g]?) : MadeW w' g t n k ns := by
  obtain ⟨c, hc, hs, hl⟩ := h
  exact ⟨c, hb.trans hc, hs, hl⟩
theorem MadeW.cell {w : World} {g n k : Nat} {t : TypeId} {ns : List ByteArray} (h : MadeW w g t n k ns) {i : Nat} (hi : i < n) : ∃ v, w.cell? ⟨g, i, none⟩ = some v := by
  obtain ⟨c, hc, hs, _⟩ := h
  exact ⟨_, (cell_of_row w g i c t (0, 0) hc).trans (Array.getElem?_eq_getElem (by omega))⟩
theorem MadeW.frozen {w : World} {g n k : Nat} {t : TypeId} {ns : List ByteArray} (h : MadeW w g t n k ns) (j : Nat) : w.frozen? ⟨g, j, none⟩ = false := by
  obtain ⟨c, hc, _⟩ := h
  exact frozen_of_row w g j c t hc
theorem MadeW.stored {w : World} {g n k : Nat} {t : TypeId} {ns : List ByteArray} (h : MadeW w g t n k ns) (hk : k < n) {x : ByteArray} (hx : ns[k]? = some x) : MadeW (w.setCell ⟨g, k, none⟩ (.string x)) g t n (k + 1) ns := by
  obtain ⟨c, hc, hs, hl⟩ := h
  refine ⟨_, heap_setCell_same w g k c t _ hc, by simp [hs], fun i hi y hy => ?_⟩
  rw [Array.getElem?_setIfInBounds]
  by_cases e : k = i
  · subst e
    rw [hx] at hy
    injection hy with hy
    subst hy
    rw [if_pos rfl, if_pos (by omega)]
  · rw [if_neg e]
    exact hl i (by omega) y hy
theorem MadeW.done {w : World} {g n : Nat} {t : TypeId} {ns : List ByteArray} (h : MadeW w g t n n ns) (hn : ns.length ≤ n) : OwnW w g t ns := by
  obtain ⟨c, hc, _, hl⟩ := h
  exact ⟨c, hc, fun k x hx => hl k (by have := (List.getElem?_eq_some_iff.1 hx).1; omega) x hx⟩
theorem MadeW.of_own {w : World} {g : Nat} {t : TypeId} {ns : List ByteArray} (h : OwnW w g t ns) (ms : List ByteArray) : ∃ n, ns.length ≤ n ∧ MadeW w g t n 0 ms := by
  obtain ⟨c, hc, hl⟩ := h
  refine ⟨c.size, ?_, c, hc, rfl, fun i hi => absurd hi (by omega)⟩
  rcases Nat.eq_zero_or_pos ns.length with e | e
  · omega
  · have := (Array.getElem?_eq_some_iff.1 (hl (ns.length - 1) _ (List.getElem?_eq_getElem (by omega)))).1
    omega
theorem set_only {w a : World} {g : Nat} (h : w.grownBy a (some g)) (o : Nat) (u : Value) : w.grownBy (a.setCell ⟨g, o, none⟩ u) (some g) :=
  ⟨h.os, h.tape, h.output, by simpa [World.setCell] using h.size, fun b hb hne => (Below.heap_setCell a ⟨g, o, none⟩ u b (fun e => hne (by rw [e]))).trans (h.block b hb hne)⟩
theorem refl_only (w : World) (row : Option Nat) : w.grownBy w row := ⟨rfl, rfl, rfl, Nat.le_refl _, fun _ _ _ => rfl⟩
/-! ### the law's helpers -/
def dB (n : Nat) : ByteArray := ⟨#[UInt8.ofNat (48 + n % 10)]⟩
def mkT (n : Nat) (s : ByteArray) : ByteArray := if h : n = 0 then s else mkT (n / 10) (dB n ++ s)
termination_by n
decreasing_by omega
theorem mkT_0 (s : ByteArray) : mkT 0 s = s := by rw [mkT]; rfl
theorem mkT_s {n : Nat} (h : 0 < n) (s : ByteArray) : mkT n s = mkT (n / 10) (dB n ++ s) := by rw [mkT, dif_neg (by omega)]
def mkS (k : Int) : ByteArray := ⟨#[109]⟩ ++ mkT k.toNat ⟨#[]⟩
theorem conv_one (n : Nat) (W : World) :
    (convert 46 9 (.slice (some ⟨W.heap.size, 0, none⟩) 1 1)).run Tryd.prog (W.alloc (.cells #[.int .u8 (48 + (n : Int) % 10)] 5)) = .ok (.string (dB n)) (W.alloc (.cells #[.int .u8 (48 + (n : Int) % 10)] 5)) := by
  refine run_convert_bytes_back _ 46 9 5 ⟨W.heap.size, 0, none⟩ 1 [UInt8.ofNat (48 + n % 10)] Tryd.underlying46 Tryd.underlying5 Tryd.underlying9 ?_
  intro j hj
  have e1 : ((UInt8.ofNat (48 + n % 10)).toNat : Int) = 48 + (n : Int) % 10 := by rw [UInt8.toNat_ofNat']; omega
  rw [Go.WideShapes.add_plain, Nat.zero_add]
  match j, hj with
  | 0, _ => rw [show ([UInt8.ofNat (48 + n % 10)] : List UInt8)[0] = UInt8.ofNat (48 + n % 10) from rfl, e1]; simp [go_sem]
theorem markText_any (k : Int) (w : World) (h0 : 1 ≤ k) (h1 : k ≤ 12000000) : Calls Tryd.prog 17 #[.int .i64 k] w fun e w' => e = .returned (.string (mkS k)) ∧ Below w.heap.size w w' := by
  obtain ⟨K, rfl⟩ := Int.eq_ofNat_of_zero_le (show 0 ≤ k by omega)
  have F : Hid (mkS (K : Int) = ⟨#[109]⟩ ++ mkT K ⟨#[]⟩) := by show _ = _; unfold mkS; rw [Int.toNat_natCast]
  have z5 : (⟨#[109]⟩ : ByteArray).size ≤ 1 := by decide
  go_enter Tryd.func17, Tryd.ntmps17
  go_wp2_with fail
  go_loopw [0, 3] (fun a b wr => ∃ (n : Nat) (s : ByteArray), a = .int .i64 n ∧ b = .string s ∧ s.size + n ≤ 12000000 ∧ Hid (mkT n s = mkT K ⟨#[]⟩) ∧ Below w.heap.size w wr) (fun a _ _ => (intOf a).toNat)
  case atStart => exact ⟨K, _, rfl, rfl, by show 0 + K ≤ _; omega, Lib.hid rfl, Below.refl _ _⟩
  case round =>
    obtain ⟨n, s, rfl, rfl, hz, HM, hb⟩ := hrel
    have hs : s.size ≤ 12000000 := by omega
    by_cases hn : 0 < n
    · have HX := Lib.hid ((mkT_s hn s).symm.trans HM.out)
      have hc := conv_one n wr
      have z1 : (dB n).size ≤ 1 := Nat.le_refl _
      go_wp2_with fail
      go_roundw
      case rel => exact ⟨n / 10, _, by first | rfl | exact val_i64 (by omega), rfl, by rw [ByteArray.size_append]; omega, HX, bl_alloc hb _⟩
      case measure => simp [intOf]; omega
    · obtain rfl : n = 0 := by omega
      have HX := Lib.hid ((mkT_0 s).symm.trans HM.out)
      go_wp2_with fail
      go_ret
      exact ⟨ret_str (by rw [F.out, ← HX.out]), hb⟩
theorem eqStringS_same (A B : Option Addr) (c d : Nat) (ns : List ByteArray) (w : World) (hA : RdT w A ns) (hB : RdT w B ns) (hn : ns.length ≤ 1048577) :
    Calls Tryd.prog 8 #[.slice A ns.length c, .slice B ns.length d] w fun e w' => e = .returned (.bool true) ∧ Below w.heap.size w w' := by
  go_enter Tryd.func8, Tryd.ntmps8
  go_wp2_with fail
  go_loopw [5] (fun i wr => ∃ k : Nat, k ≤ ns.length ∧ i = .int .i64 k ∧ Below w.heap.size w wr) (fun i _ => ns.length - (intOf i).toNat)
  case atStart => exact ⟨0, Nat.zero_le _, rfl, Below.refl _ _⟩
  case round =>
    obtain ⟨k, hk, rfl, hb⟩ := hrel
    by_cases hlt : k < ns.length
    · obtain ⟨g, o, rfl, hx⟩ := (hA.below hb).at_ k hlt
      obtain ⟨g', o', rfl, hy⟩ := (hB.below hb).at_ k hlt
      go_wp2_with fail
      go_quiet (fail)
      go_wp2_with fail
      go_roundw
      case rel => exact ⟨k + 1, by omega, by go_num, bl_drewN hb _⟩
      case measure => simp [intOf]; omega
    · obtain rfl : k = ns.length := by omega
      go_wp2_with fail
      go_ret
      exact ⟨rfl, hb⟩
def markT (k : Int) (n : Nat) : List ByteArray := (List.range n).map fun i : Nat => mkS (k + (i : Int))
theorem markT_len (k : Int) (n : Nat) : (markT k n).length = n := by simp [markT]
theorem markT_at (k : Int) (n i : Nat) (h : i < n) : (markT k n)[i]? = some (mkS (k + i)) := by simp [markT, h]
/-- What a result is: a slice of that many strings, in a block of its own from B on (or none, where there are none). -/
def OwnWO (w : World) (B : Nat) (A : Option Addr) (ns : List ByteArray) : Prop := ns = [] ∨ ∃ g, A = some ⟨g, 0, none⟩ ∧ B ≤ g ∧ OwnW w g 9 ns
theorem OwnWO.rd {w : World} {B : Nat} {A : Option Addr} {ns : List ByteArray} (h : OwnWO w B A ns) : RdT w A ns := by
  rcases h with rfl | ⟨g, rfl, _, h⟩
  · exact RdT.nil _ _
  · exact h.rd
theorem OwnWO.below {w w' : World} {B : Nat} {A : Option Addr} {ns : List ByteArray} (h : OwnWO w B A ns) (hb : Below w.heap.size w w') : OwnWO w' B A ns := by
  rcases h with rfl | ⟨g, rfl, hB, h⟩
  · exact .inl rfl
  · exact .inr ⟨g, rfl, hB, h.below hb⟩
theorem OwnWO.mono {w : World} {B B' : Nat} {A : Option Addr} {ns : List ByteArray} (h : OwnWO w B A ns) (hB : B' ≤ B) : OwnWO w B' A ns := by
  rcases h with h | ⟨g, hA, hg, h⟩
  · exact .inl h
  · exact .inr ⟨g, hA, Nat.le_trans hB hg, h⟩
theorem OwnWO.aside {w w' : World} {B p : Nat} {A : Option Addr} {ns : List ByteArray} (h : OwnWO w B A ns) (hg : w.grownBy w' (some p)) (hp : p < B) : OwnWO w' B A ns := by
  rcases h with rfl | ⟨g, rfl, hB, h⟩
  · exact .inl rfl
  · exact .inr ⟨g, rfl, hB, h.of_block (hg.block g h.lt (fun e => by injection e with e; omega))⟩
def MarkRT (w : World) (g : Nat) (k : Int) (n N : Nat) (q i : Value) (wr : World) : Prop := ∃ (m : Nat) (a : Int), m ≤ n ∧ i = .int .i64 m ∧ q = .int .i64 a ∧ Hid (a = k + m) ∧ 1 ≤ a ∧ a ≤ 12000000 ∧ MadeW wr g 9 N m (markT k n) ∧ w.grownBy wr (some g)
theorem markT_own (g c : Nat) (ns : List ByteArray) (k : Int) (w : World) (h : OwnW w g 9 ns) (hn : ns.length ≤ 1048577) (h0 : 1 ≤ k) (h1 : k ≤ 10000000) :
    Calls Tryd.prog 9 #[.slice (some ⟨g, 0, none⟩) ns.length c, .int .i64 k] w fun e w' => e = .returned (.int .i64 (k + ns.length)) ∧ OwnW w' g 9 (markT k ns.length) ∧ w.grownBy w' (some g) := by
  obtain ⟨N, hN, hM0⟩ := MadeW.of_own h (markT k ns.length)
  go_enter Tryd.func9, Tryd.ntmps9
  go_wp2_with fail
  go_loopw [1, 5] (MarkRT w g k ns.length N) (fun _ i _ => ns.length - (intOf i).toNat)
  case atStart => exact ⟨0, k, Nat.zero_le _, rfl, rfl, by show k = _; simp, h0, by omega, hM0, refl_only _ _⟩
  case round =>
    obtain ⟨m, a, hm, rfl, rfl, ha, a0, a1, hM, hg⟩ := hrel
    clear hM0
    by_cases hlt : m < ns.length
    · go_wp2_with fail
      refine (markText_any a _ (by omega) (by omega)).mono ?_
      rintro e wd ⟨rfl, hbd⟩
      have hM := hM.of_block (hbd.block g hM.lt)
      have hg := grown_below hg hbd
      obtain ⟨v0, e0⟩ := hM.cell (show m < N by omega)
      have f0 := hM.frozen m
      go_wp2_with fail
      clear e0 f0
      go_roundw
      case rel =>
        have hat := markT_at k ns.length m hlt
        rw [← ha.out] at hat
        have HM : MarkRT w g k ns.length N (.int .i64 (a + 1)) (.int .i64 ((m + 1 : Nat) : Int)) (wd.setCell ⟨g, m, none⟩ (.string (mkS a))) :=
          ⟨m + 1, a + 1, by omega, rfl, rfl, by show _ = _; have := ha.out; push_cast; omega, by omega, by have := ha.out; omega, hM.stored (by omega) hat, set_only hg m _⟩
        exact HM
      case measure => simp [intOf]; omega
    · obtain rfl : m = ns.length := by omega
      go_wp2_with fail
      go_ret
      refine ⟨ret_int ha.out, ?_, hg⟩
      obtain ⟨c, hc, _, hl⟩ := hM
      exact ⟨c, hc, fun k x hx => hl k (by have := (List.getElem?_eq_some_iff.1 hx).1; rwa [markT_len] at this) x hx⟩
theorem markT_nil (A : Option Addr) (c : Nat) (k : Int) (w : World) :
    Calls Tryd.prog 9 #[.slice A 0 c, .int .i64 k] w fun e w' => e = .returned (.int .i64 k) ∧ w = w' := by
  go_enter Tryd.func9, Tryd.ntmps9
  go_wp2_with fail
  go_loop [1, 5] (fun q i => q = .int .i64 k ∧ i = .int .i64 0) (fun _ _ => 0)
  case atStart => exact ⟨rfl, rfl⟩
  case round =>
    obtain ⟨rfl, rfl⟩ := hrel
    go_wp2_with fail
    go_ret
    exact ⟨rfl, rfl⟩
def MarkedT (w : World) (k : Int) (B : Nat) (A : Option Addr) (ns : List ByteArray) (e : Ending) (w' : World) : Prop := e = .returned (.int .i64 (k + ns.length)) ∧ OwnWO w' B A (markT k ns.length) ∧ Below B w w'
theorem markT_any (A : Option Addr) (c : Nat) (ns : List ByteArray) (k : Int) (w : World) (B : Nat) (h : OwnWO w B A ns) (hB : B ≤ w.heap.size) (hn : ns.length ≤ 1048577) (h0 : 1 ≤ k) (h1 : k ≤ 10000000) :
    Calls Tryd.prog 9 #[.slice A ns.length c, .int .i64 k] w (MarkedT w k B A ns) := by
  by_cases hne : ns = []
  · subst hne
    exact (markT_nil A c k w).mono fun e w' ⟨he, hw⟩ => ⟨by rw [he]; simp, .inl rfl, hw ▸ Below.refl _ _⟩
  rcases h with rfl | ⟨g, rfl, hBg, h⟩
  · exact absurd rfl hne
  · exact (markT_own g c ns k w h hn h0 h1).mono fun e w' ⟨he, h2, hg⟩ => ⟨he, .inr ⟨g, rfl, hBg, h2⟩, ⟨hg.os, hg.tape, hg.output, hg.size, fun b hb => hg.block b (by omega) (fun e => by injection e with e; omega)⟩⟩
def HeldRT (k : Int) (n : Nat) (q i : Value) : Prop := ∃ (m : Nat) (a : Int), m ≤ n ∧ i = .int .i64 m ∧ q = .int .i64 a ∧ Hid (a = k + m) ∧ 1 ≤ a ∧ a ≤ 12000000
theorem heldT_any (A : Option Addr) (c : Nat) (n : Nat) (k : Int) (w : World) (h : RdT w A (markT k n)) (hn : n ≤ 1048577) (h0 : 1 ≤ k) (h1 : k ≤ 10000000) :
    Calls Tryd.prog 10 #[.slice A n c, .int .i64 k] w fun e w' => e = .returned (.int .i64 (k + n)) ∧ Below w.heap.size w w' := by
  go_enter Tryd.func10, Tryd.ntmps10
  go_wp2_with fail
  go_loopw [1, 5] (fun q i wr => HeldRT k n q i ∧ Below w.heap.size w wr) (fun _ i _ => n - (intOf i).toNat)
  case atStart => exact ⟨⟨0, k, Nat.zero_le _, rfl, rfl, by show k = _; simp, h0, by omega⟩, Below.refl _ _⟩
  case round =>
    obtain ⟨⟨m, a, hm, rfl, rfl, ha, a0, a1⟩, hb⟩ := hrel
    by_cases hlt : m < n
    · have hat := markT_at k n m hlt
      rw [← ha.out] at hat
      obtain ⟨g, o, rfl, hx⟩ := (h.below hb) m _ hat
      have hgl := World.block_lt_of_cell? _ _ hx
      clear hat
      go_wp2_with fail
      go_region_with ((go_at_call 17; refine (markText_any a _ (by omega) (by omega)).mono ?_; rintro e wd ⟨rfl, hbd⟩; have hy := (World.cell?_of_block (a := ⟨g, o + m, none⟩) (hbd.block g hgl)).trans hx; have hb2 : Below w.heap.size w wd := bl_trans hb (bl_undrew hbd)))
      all_goals
        go_wp2_with fail
        go_roundw
        case rel => exact ⟨⟨m + 1, a + 1, by omega, by go_num, rfl, by show _ = _; have := ha.out; push_cast; omega, by omega, by have := ha.out; omega⟩, hb2⟩
        case measure => simp [intOf]; omega
    · obtain rfl : m = n := by omega
      go_wp2_with fail
      go_ret
      exact ⟨ret_int ha.out, hb⟩
end Go.Proofs.YtjmojlinfjiacaaDoor
