/- The bounds of a layer's stability on a slope: the contracts of IndexBounds and what it calls, on both sides. -/
import Derived.Test.YtfndcahjjlcnaaaStress
import Derived.Test.YtfndcahjjlcnaaaStrL
import Derived.Deep.RegionHeld3
import Derived.Deep.DeepCutAuto
namespace Go.Proofs.Ytfndcahjjlcnaaa
open Go.ChangeShapes Go.WideShapes Go.ChangeAt Go.RowKit Go.Joins Go.Deep
set_option linter.unusedVariables false
def minI (a b : Int) : Int := if a < b then a else b
def idxLo (x : Ly) (s d : Int) : Int := if s = 0 then 1000000 else minI 1000000 (lowF x d * 1000 / s)
def idxHi (x : Ly) (s d : Int) : Int := if s = 0 then 1000000 else minI 1000000 ((highF x d * 1000 + s - 1) / s)
theorem lowF_bd {x : Ly} (h : LyB x) {d : Int} (h0 : 0 ≤ d) (h1 : d ≤ 1000) : 0 ≤ lowF x d ∧ lowF x d ≤ 28351 := by
  have := bm_bd h d h0 h1
  unfold lowF
  omega
theorem highF_bd {x : Ly} (h : LyB x) {d : Int} (h0 : 0 ≤ d) (h1 : d ≤ 1000) : 0 ≤ highF x d ∧ highF x d ≤ 56703 := by
  have := bm_bd h d h0 h1
  unfold highF
  omega
theorem idx_z (x : Ly) {s : Int} (d : Int) (h : s = 0) : idxLo x s d = 1000000 ∧ idxHi x s d = 1000000 := by unfold idxLo idxHi; rw [if_pos h, if_pos h]; exact ⟨rfl, rfl⟩
theorem idx_n (x : Ly) {s : Int} (d : Int) (h : ¬ s = 0) : idxLo x s d = minI 1000000 (lowF x d * 1000 / s) ∧ idxHi x s d = minI 1000000 ((highF x d * 1000 + s - 1) / s) := by unfold idxLo idxHi; rw [if_neg h, if_neg h]; exact ⟨rfl, rfl⟩
theorem l00Min_any2 (a b : Int) (w : World) : Calls Try.prog 64 #[.int .i64 a, .int .i64 b] w fun e w' => e = .returned (.int .i64 (minI a b)) ∧ w = w' := by
  by_cases h : a < b
  · have F : Hid (minI a b = a) := by show minI a b = a; unfold minI; rw [if_pos h]
    go_enter Try.func64, Try.ntmps64
    go_wp2
    go_ret
    exact ⟨(ret_int F.out).symm, rfl⟩
  · have F : Hid (minI a b = b) := by show minI a b = b; unfold minI; rw [if_neg h]
    go_enter Try.func64, Try.ntmps64
    go_wp2
    go_ret
    exact ⟨(ret_int F.out).symm, rfl⟩
theorem ql {P : Program} {f : FuncId} {args : Array Value} {w : World} {n : Nat} {v : Value}
    (h : Calls P f args (w.drewN n) fun e w' => e = .returned v ∧ w.drewN n = w') : Calls P f args (w.drewN n) fun e w'' => e = .returned v ∧ ∃ m, w'' = w.drewN m :=
  h.mono fun _ _ ⟨he, hm⟩ => ⟨he, n, hm.symm⟩
theorem l07Index_any (A : Option Addr) (c : Nat) (ls : List Ly) (k : Nat) (r u d : Int) (hk : k < ls.length) (w : World) (hr : RdL w A ls) (V : VL ls) (hc : ls.length ≤ c) (h2 : 0 ≤ r) (h3 : r ≤ 1000) (h4 : 1 ≤ u) (h5 : u ≤ 1000) (h6 : 0 ≤ d) (h7 : d ≤ 1000) :
    Calls Try.prog 50 #[.slice A ls.length c, .int .i64 k, .int .i64 0, .int .i64 r, .int .i64 u, .int .i64 d] w fun e w' => e = .returned (.tuple #[.int .i64 (idxLo ls[k] (stressF (loadF ls k) r u) d), .int .i64 (idxHi ls[k] (stressF (loadF ls k) r u) d)]) ∧ Below w.heap.size w w' := by
  have h16 := V.len
  obtain ⟨l0, l1⟩ := loadF_bd V k
  obtain ⟨s0, s1⟩ := stressF_bd (st_bd l0 (by omega) h2 h3 h4 h5)
  have bx := V.get k hk
  have hx := (hr.at_ k hk)
  obtain ⟨g, o, rfl, hx⟩ := hx
  obtain ⟨lo0, lo1⟩ := lowF_bd bx h6 h7
  obtain ⟨hi0, hi1⟩ := highF_bd bx h6 h7
  have HL : ∀ W : World, RdL W (some ⟨g, o, none⟩) ls → Calls Try.prog 44 #[.slice (some ⟨g, o, none⟩) ls.length c, .int .i64 (k : Int)] W fun e w' => e = .returned (.int .i64 (loadF ls k)) ∧ W = w' := fun W h => l03Load_any _ c ls k W h V hc hk
  have HLh := Lib.hid HL
  clear HL
  have HS : ∀ W : World, Calls Try.prog 43 #[.int .i64 (loadF ls k), .int .i64 r, .int .i64 u] W fun e w' => e = .returned (.int .i64 (stressF (loadF ls k) r u)) ∧ W = w' := fun W => l07Stress_any _ _ _ W l0 (by omega) h2 h3 h4 h5
  have HSh := Lib.hid HS
  clear HS
  have Z := Lib.hid (fun h => idx_z ls[k] (s := stressF (loadF ls k) r u) d h)
  have N := Lib.hid (fun h => idx_n ls[k] (s := stressF (loadF ls k) r u) d h)
  generalize stressF (loadF ls k) r u = s at *
  generalize loadF ls k = l at *
  by_cases hs : s = 0
  · have F := Lib.hid (Z.out hs)
    clear Z N
    subst hs
    go_enter Try.func50, Try.ntmps50
    go_wp2_with (first | (go_at_call 44; refine (HLh.out _ hr).mono ?_; rintro e w' ⟨rfl, rfl⟩) | (go_at_call 43; refine (HSh.out _).mono ?_; rintro e w' ⟨rfl, rfl⟩))
    go_ret2
    exact ⟨(ret2i F.out.1 F.out.2).symm, Below.refl _ _⟩
  · have F := Lib.hid (N.out hs)
    clear Z N
    have hsp : 0 < s := by omega
    have hsn : (s == 0) = false := by simp [hs]
    have hs' := Lib.hid hs
    clear hs
    obtain ⟨q0, q1⟩ := div_le_self (lowF ls[k] d * 1000) s (by omega) hsp
    obtain ⟨p0, p1⟩ := div_le_self (highF ls[k] d * 1000 + s - 1) s (by omega) hsp
    go_enter Try.func50, Try.ntmps50
    go_wp2_with (first | (go_at_call 44; refine (HLh.out _ hr).mono ?_; rintro e w' ⟨rfl, rfl⟩) | (go_at_call 43; refine (HSh.out _).mono ?_; rintro e w' ⟨rfl, rfl⟩) | (go_at_call 63; refine (l07Strength_any ls[k] _ _ _ _ bx hx h6 h7).mono ?_; rintro e w1 ⟨rfl, hb1⟩))
    have r1 : IntKind.i64.wrap (lowF ls[k] d * 1000) = lowF ls[k] d * 1000 := by rw [IntKind.wrap_i64]; omega
    have r2 : (lowF ls[k] d * 1000).tdiv s = lowF ls[k] d * 1000 / s := Int.tdiv_eq_ediv_of_nonneg (by omega)
    have r3 : IntKind.i64.wrap (lowF ls[k] d * 1000 / s) = lowF ls[k] d * 1000 / s := by rw [IntKind.wrap_i64]; omega
    have r4 : IntKind.i64.wrap (highF ls[k] d * 1000) = highF ls[k] d * 1000 := by rw [IntKind.wrap_i64]; omega
    have r5 : IntKind.i64.wrap (highF ls[k] d * 1000 + s) = highF ls[k] d * 1000 + s := by rw [IntKind.wrap_i64]; omega
    have r6 : IntKind.i64.wrap (highF ls[k] d * 1000 + s - 1) = highF ls[k] d * 1000 + s - 1 := by rw [IntKind.wrap_i64]; omega
    have r7 : (highF ls[k] d * 1000 + s - 1).tdiv s = (highF ls[k] d * 1000 + s - 1) / s := Int.tdiv_eq_ediv_of_nonneg (by omega)
    have r8 : IntKind.i64.wrap ((highF ls[k] d * 1000 + s - 1) / s) = (highF ls[k] d * 1000 + s - 1) / s := by rw [IntKind.wrap_i64]; omega
    go_quiet ((go_at_call 64; exact ql (l00Min_any2 _ _ _)))
    clear r1 r2 r3 r4 r5 r6 r7 r8
    go_wp2_with fail
    go_ret2
    exact ⟨(ret2i F.out.1 F.out.2).symm, bl_drewN hb1 _⟩
theorem min_cases (y : Int) : (¬ 1000000 < y → minI 1000000 y = y) ∧ (1000000 < y → minI 1000000 y = 1000000) := by unfold minI; exact ⟨fun h => by rw [if_neg h], fun h => by rw [if_pos h]⟩
theorem SI_step {wc a b : World} {p g o : Nat} {A : Option Addr} {n c : Nat} {r u d : Int} {x : Ly} (hp : p < wc.heap.size) (hg : g < wc.heap.size) (h : a.cell? ⟨p, 0, none⟩ = some (.slice A n c) ∧ a.cell? ⟨p, 1, none⟩ = some (.int .i64 r) ∧ a.cell? ⟨p, 2, none⟩ = some (.int .i64 u) ∧ a.cell? ⟨p, 3, none⟩ = some (.int .i64 d) ∧ a.cell? ⟨p, 4, none⟩ = some (.int .i64 0) ∧ a.cell? ⟨g, o, none⟩ = some (.int .i64 x.form) ∧ a.cell? ⟨g, o + 1, none⟩ = some (.int .i64 x.ice) ∧ a.cell? ⟨g, o + 2, none⟩ = some (.int .i64 x.water) ∧ a.cell? ⟨g, o + 3, none⟩ = some (.int .i64 x.dens) ∧ a.cell? ⟨g, o + 4, none⟩ = some (.int .i64 x.deg) ∧ a.cell? ⟨g, o + 5, none⟩ = some (.int .i64 x.hard) ∧ a.cell? ⟨g, o + 6, none⟩ = some (.int .i64 x.age) ∧ Below wc.heap.size wc a) (hb : Below a.heap.size a b) :
    b.cell? ⟨p, 0, none⟩ = some (.slice A n c) ∧ b.cell? ⟨p, 1, none⟩ = some (.int .i64 r) ∧ b.cell? ⟨p, 2, none⟩ = some (.int .i64 u) ∧ b.cell? ⟨p, 3, none⟩ = some (.int .i64 d) ∧ b.cell? ⟨p, 4, none⟩ = some (.int .i64 0) ∧ b.cell? ⟨g, o, none⟩ = some (.int .i64 x.form) ∧ b.cell? ⟨g, o + 1, none⟩ = some (.int .i64 x.ice) ∧ b.cell? ⟨g, o + 2, none⟩ = some (.int .i64 x.water) ∧ b.cell? ⟨g, o + 3, none⟩ = some (.int .i64 x.dens) ∧ b.cell? ⟨g, o + 4, none⟩ = some (.int .i64 x.deg) ∧ b.cell? ⟨g, o + 5, none⟩ = some (.int .i64 x.hard) ∧ b.cell? ⟨g, o + 6, none⟩ = some (.int .i64 x.age) ∧ Below wc.heap.size wc b := by
  obtain ⟨b0, b1, b2, b3, b4, c0, c1, c2, c3, c4, c5, c6, hB⟩ := h
  have hp2 : p < a.heap.size := Nat.lt_of_lt_of_le hp hB.size
  have hg2 : g < a.heap.size := Nat.lt_of_lt_of_le hg hB.size
  exact ⟨(hb.cell (p := ⟨p, _, none⟩) hp2).trans b0, (hb.cell (p := ⟨p, _, none⟩) hp2).trans b1, (hb.cell (p := ⟨p, _, none⟩) hp2).trans b2, (hb.cell (p := ⟨p, _, none⟩) hp2).trans b3, (hb.cell (p := ⟨p, _, none⟩) hp2).trans b4,
    (hb.cell (p := ⟨g, _, none⟩) hg2).trans c0, (hb.cell (p := ⟨g, _, none⟩) hg2).trans c1, (hb.cell (p := ⟨g, _, none⟩) hg2).trans c2, (hb.cell (p := ⟨g, _, none⟩) hg2).trans c3, (hb.cell (p := ⟨g, _, none⟩) hg2).trans c4, (hb.cell (p := ⟨g, _, none⟩) hg2).trans c5, (hb.cell (p := ⟨g, _, none⟩) hg2).trans c6, bl_trans hB hb⟩
theorem SI_bl {wc a : World} {p g o : Nat} {A : Option Addr} {n c : Nat} {r u d : Int} {x : Ly} (h : a.cell? ⟨p, 0, none⟩ = some (.slice A n c) ∧ a.cell? ⟨p, 1, none⟩ = some (.int .i64 r) ∧ a.cell? ⟨p, 2, none⟩ = some (.int .i64 u) ∧ a.cell? ⟨p, 3, none⟩ = some (.int .i64 d) ∧ a.cell? ⟨p, 4, none⟩ = some (.int .i64 0) ∧ a.cell? ⟨g, o, none⟩ = some (.int .i64 x.form) ∧ a.cell? ⟨g, o + 1, none⟩ = some (.int .i64 x.ice) ∧ a.cell? ⟨g, o + 2, none⟩ = some (.int .i64 x.water) ∧ a.cell? ⟨g, o + 3, none⟩ = some (.int .i64 x.dens) ∧ a.cell? ⟨g, o + 4, none⟩ = some (.int .i64 x.deg) ∧ a.cell? ⟨g, o + 5, none⟩ = some (.int .i64 x.hard) ∧ a.cell? ⟨g, o + 6, none⟩ = some (.int .i64 x.age) ∧ Below wc.heap.size wc a) : Below wc.heap.size wc a := by
  obtain ⟨_, _, _, _, _, _, _, _, _, _, _, _, h⟩ := h
  exact h
set_option maxHeartbeats 4000000 in
theorem index_any (A : Option Addr) (c : Nat) (ls : List Ly) (k : Nat) (r u d : Int) (hk : k < ls.length) (w : World) (hr : RdL w A ls) (V : VL ls) (hc : ls.length ≤ c) (h2 : 0 ≤ r) (h3 : r ≤ 1000) (h4 : 1 ≤ u) (h5 : u ≤ 1000) (h6 : 0 ≤ d) (h7 : d ≤ 1000) :
    Calls Try.prog 52 #[.agg #[.slice A ls.length c, .int .i64 r, .int .i64 u, .int .i64 d, .int .i64 0], .int .i64 k] w fun e w' => e = .returned (.tuple #[.int .i64 (idxLo ls[k] (stressF (loadF ls k) r u) d), .int .i64 (idxHi ls[k] (stressF (loadF ls k) r u) d)]) ∧ Below w.heap.size w w' := by
  have h16 := V.len
  obtain ⟨l0, l1⟩ := loadF_bd V k
  obtain ⟨s0, s1⟩ := stressF_bd (st_bd l0 (by omega) h2 h3 h4 h5)
  have bx := V.get k hk
  obtain ⟨g, o0, rfl, hx⟩ := (hr.at_ k hk)
  obtain ⟨lo0, lo1⟩ := lowF_bd bx h6 h7
  obtain ⟨hi0, hi1⟩ := highF_bd bx h6 h7
  have HL : ∀ W : World, RdL W (some ⟨g, o0, none⟩) ls → Calls Try.prog 48 #[.slice (some ⟨g, o0, none⟩) ls.length c, .int .i64 (k : Int)] W fun e w' => e = .returned (.int .i64 (loadF ls k)) ∧ Below W.heap.size W w' := fun W h => loadAbove_any _ c ls k W h V hc hk
  have HLh := Lib.hid HL
  clear HL
  have HS : ∀ W : World, Calls Try.prog 47 #[.int .i64 (loadF ls k), .int .i64 r, .int .i64 u] W fun e w' => e = .returned (.int .i64 (stressF (loadF ls k) r u)) ∧ ∃ n, w' = W.drewN n := fun W => stressOf_any _ _ _ W l0 (by omega) h2 h3 h4 h5
  have HSh := Lib.hid HS
  clear HS
  have HT : ∀ W : World, Calls Try.prog 65 #[.agg #[.int .i64 ls[k].form, .int .i64 ls[k].ice, .int .i64 ls[k].water, .int .i64 ls[k].dens, .int .i64 ls[k].deg, .int .i64 ls[k].hard, .int .i64 ls[k].age], .int .i64 d] W fun e w' => e = .returned (.tuple #[.int .i64 (lowF ls[k] d), .int .i64 (highF ls[k] d)]) ∧ Below W.heap.size W w' := fun W => strength_any ls[k] d W bx h6 h7
  have HTh := Lib.hid HT
  clear HT
  have Z := Lib.hid (fun h => idx_z ls[k] (s := stressF (loadF ls k) r u) d h)
  have N := Lib.hid (fun h => idx_n ls[k] (s := stressF (loadF ls k) r u) d h)
  generalize stressF (loadF ls k) r u = s at *
  generalize loadF ls k = l at *
  have HR := Lib.hid hr
  have hg := hx.lt
  clear hr
  generalize ls[k] = x at *
  generalize lowF x d = lo at *
  generalize highF x d = hi at *
  go_enter Try.func52, Try.ntmps52
  go_wp2_with fail
  have hB0 : ∃ p : Nat, p = w.heap.size ∧ (w.alloc (.cells #[.slice (some ⟨g, o0, none⟩) ls.length c, .int .i64 r, .int .i64 u, .int .i64 d, .int .i64 0] 62)).cell? ⟨p, 0, none⟩ = some (.slice (some ⟨g, o0, none⟩) ls.length c) ∧ (w.alloc (.cells #[.slice (some ⟨g, o0, none⟩) ls.length c, .int .i64 r, .int .i64 u, .int .i64 d, .int .i64 0] 62)).cell? ⟨p, 1, none⟩ = some (.int .i64 r) ∧ (w.alloc (.cells #[.slice (some ⟨g, o0, none⟩) ls.length c, .int .i64 r, .int .i64 u, .int .i64 d, .int .i64 0] 62)).cell? ⟨p, 2, none⟩ = some (.int .i64 u) ∧ (w.alloc (.cells #[.slice (some ⟨g, o0, none⟩) ls.length c, .int .i64 r, .int .i64 u, .int .i64 d, .int .i64 0] 62)).cell? ⟨p, 3, none⟩ = some (.int .i64 d) ∧ (w.alloc (.cells #[.slice (some ⟨g, o0, none⟩) ls.length c, .int .i64 r, .int .i64 u, .int .i64 d, .int .i64 0] 62)).cell? ⟨p, 4, none⟩ = some (.int .i64 0) ∧ p < (w.alloc (.cells #[.slice (some ⟨g, o0, none⟩) ls.length c, .int .i64 r, .int .i64 u, .int .i64 d, .int .i64 0] 62)).heap.size ∧ Below w.heap.size w (w.alloc (.cells #[.slice (some ⟨g, o0, none⟩) ls.length c, .int .i64 r, .int .i64 u, .int .i64 d, .int .i64 0] 62)) :=
    ⟨_, rfl, by simp [go_sem], by simp [go_sem], by simp [go_sem], by simp [go_sem], by simp [go_sem], by simp, bl_alloc (Below.refl _ _) _⟩
  obtain ⟨p, hpw, b0, b1, b2, b3, b4, hp, hb⟩ := hB0
  rw [← hpw]
  have HPW := Lib.hid hpw
  clear hpw
  generalize w.alloc (.cells #[.slice (some ⟨g, o0, none⟩) ls.length c, .int .i64 r, .int .i64 u, .int .i64 d, .int .i64 0] 62) = wc at *
  · have hr1 := HR.out.below hb
    have HR2 := Lib.hid hr1
    clear hr1 HR
    have hx1 := hx.below hb hg
    have hg1 := hx1.lt
    clear hx hg
    have hg := hg1
    clear hg1
    obtain ⟨c0, c1, c2, c3, c4, c5, c6⟩ := hx1
    go_wp2_with fail
    go_region_held3 (fun w' => w'.cell? ⟨p, 0, none⟩ = some (.slice (some ⟨g, o0, none⟩) ls.length c) ∧ w'.cell? ⟨p, 1, none⟩ = some (.int .i64 r) ∧ w'.cell? ⟨p, 2, none⟩ = some (.int .i64 u) ∧ w'.cell? ⟨p, 3, none⟩ = some (.int .i64 d) ∧ w'.cell? ⟨p, 4, none⟩ = some (.int .i64 0) ∧ w'.cell? ⟨g, o0 + k * 7, none⟩ = some (.int .i64 x.form) ∧ w'.cell? ⟨g, o0 + k * 7 + 1, none⟩ = some (.int .i64 x.ice) ∧ w'.cell? ⟨g, o0 + k * 7 + 2, none⟩ = some (.int .i64 x.water) ∧ w'.cell? ⟨g, o0 + k * 7 + 3, none⟩ = some (.int .i64 x.dens) ∧ w'.cell? ⟨g, o0 + k * 7 + 4, none⟩ = some (.int .i64 x.deg) ∧ w'.cell? ⟨g, o0 + k * 7 + 5, none⟩ = some (.int .i64 x.hard) ∧ w'.cell? ⟨g, o0 + k * 7 + 6, none⟩ = some (.int .i64 x.age) ∧ Below wc.heap.size wc w') (first | exact SI_step hp hg (by assumption) hb1 | exact SI_step hp hg (by assumption) (bl_drewN (Below.refl _ _) _) | (refine SI_step hp hg ?_ (by assumption); refine ⟨?_, ?_, ?_, ?_, ?_, ?_, ?_, ?_, ?_, ?_, ?_, ?_, ?_⟩ <;> first | assumption | exact Below.refl _ _) | (refine ⟨?_, ?_, ?_, ?_, ?_, ?_, ?_, ?_, ?_, ?_, ?_, ?_, ?_⟩ <;> first | assumption | exact (Below.refl _ _).drew | exact Below.refl _ _ | exact Below.drew (by assumption) | go_keep) | go_keep) (first | (go_at_call 65; refine (HTh.out _).mono ?_; rintro e w1 ⟨rfl, hb1⟩))
    have hS : w1.cell? ⟨p, 0, none⟩ = some (.slice (some ⟨g, o0, none⟩) ls.length c) ∧ w1.cell? ⟨p, 1, none⟩ = some (.int .i64 r) ∧ w1.cell? ⟨p, 2, none⟩ = some (.int .i64 u) ∧ w1.cell? ⟨p, 3, none⟩ = some (.int .i64 d) ∧ w1.cell? ⟨p, 4, none⟩ = some (.int .i64 0) ∧ w1.cell? ⟨g, o0 + k * 7, none⟩ = some (.int .i64 x.form) ∧ w1.cell? ⟨g, o0 + k * 7 + 1, none⟩ = some (.int .i64 x.ice) ∧ w1.cell? ⟨g, o0 + k * 7 + 2, none⟩ = some (.int .i64 x.water) ∧ w1.cell? ⟨g, o0 + k * 7 + 3, none⟩ = some (.int .i64 x.dens) ∧ w1.cell? ⟨g, o0 + k * 7 + 4, none⟩ = some (.int .i64 x.deg) ∧ w1.cell? ⟨g, o0 + k * 7 + 5, none⟩ = some (.int .i64 x.hard) ∧ w1.cell? ⟨g, o0 + k * 7 + 6, none⟩ = some (.int .i64 x.age) ∧ Below wc.heap.size wc w1 := by assumption
    clear b0 b1 b2 b3 b4 c0 c1 c2 c3 c4 c5 c6
    obtain ⟨b0, b1, b2, b3, b4, c0, c1, c2, c3, c4, c5, c6, hB1⟩ := hS
    go_wp2_with fail
    have q1 : IntKind.i64.wrap l = l := by rw [IntKind.wrap_i64]; omega
    go_region_held3 (fun w' => w'.cell? ⟨p, 0, none⟩ = some (.slice (some ⟨g, o0, none⟩) ls.length c) ∧ w'.cell? ⟨p, 1, none⟩ = some (.int .i64 r) ∧ w'.cell? ⟨p, 2, none⟩ = some (.int .i64 u) ∧ w'.cell? ⟨p, 3, none⟩ = some (.int .i64 d) ∧ w'.cell? ⟨p, 4, none⟩ = some (.int .i64 0) ∧ w'.cell? ⟨g, o0 + k * 7, none⟩ = some (.int .i64 x.form) ∧ w'.cell? ⟨g, o0 + k * 7 + 1, none⟩ = some (.int .i64 x.ice) ∧ w'.cell? ⟨g, o0 + k * 7 + 2, none⟩ = some (.int .i64 x.water) ∧ w'.cell? ⟨g, o0 + k * 7 + 3, none⟩ = some (.int .i64 x.dens) ∧ w'.cell? ⟨g, o0 + k * 7 + 4, none⟩ = some (.int .i64 x.deg) ∧ w'.cell? ⟨g, o0 + k * 7 + 5, none⟩ = some (.int .i64 x.hard) ∧ w'.cell? ⟨g, o0 + k * 7 + 6, none⟩ = some (.int .i64 x.age) ∧ Below wc.heap.size wc w') (first | exact SI_step hp hg (by assumption) hb1 | exact SI_step hp hg (by assumption) (bl_drewN (Below.refl _ _) _) | (refine SI_step hp hg ?_ (by assumption); refine ⟨?_, ?_, ?_, ?_, ?_, ?_, ?_, ?_, ?_, ?_, ?_, ?_, ?_⟩ <;> first | assumption | exact Below.refl _ _) | (refine ⟨?_, ?_, ?_, ?_, ?_, ?_, ?_, ?_, ?_, ?_, ?_, ?_, ?_⟩ <;> first | assumption | exact (Below.refl _ _).drew | exact Below.refl _ _ | exact Below.drew (by assumption) | go_keep) | go_keep) (first | (go_at_call 48; refine (HLh.out _ (HR2.out.below (SI_bl (by assumption)))).mono ?_; rintro e w2 ⟨rfl, hb1⟩) | (go_at_call 47; refine (HSh.out _).mono ?_; rintro e w' ⟨rfl, nd, rfl⟩))
    clear q1
    by_cases hs : s = 0
    · have F := Lib.hid (Z.out hs)
      clear Z N
      subst hs
      go_wp2_with fail
      go_ret2
      exact ⟨(ret2i F.out.1 F.out.2).symm, bl_trans hb (SI_bl (by assumption))⟩
    · have F := Lib.hid (N.out hs)
      clear Z N
      have hsp : 0 < s := by omega
      have hsn : (s == 0) = false := by simp [hs]
      have hs' := Lib.hid hs
      clear hs
      obtain ⟨q0, q1⟩ := div_le_self (lo * 1000) s (by omega) hsp
      obtain ⟨p0, p1⟩ := div_le_self (hi * 1000 + s - 1) s (by omega) hsp
      go_wp2_with fail
      have r1 : IntKind.i64.wrap (1000 * lo) = lo * 1000 := by rw [IntKind.wrap_i64]; omega
      have r2 : (lo * 1000).tdiv s = lo * 1000 / s := Int.tdiv_eq_ediv_of_nonneg (by omega)
      have r3 : IntKind.i64.wrap (lo * 1000 / s) = lo * 1000 / s := by rw [IntKind.wrap_i64]; omega
      have r4 : IntKind.i64.wrap (1000 * hi) = hi * 1000 := by rw [IntKind.wrap_i64]; omega
      have hBw := SI_bl (by assumption)
      have HD : ∀ W : World, Calls Try.prog 66 #[.int .i64 (hi * 1000), .int .i64 s] W fun e w' => e = .returned (.int .i64 ((hi * 1000 + s - 1) / s)) ∧ W = w' := fun W => divUp_any _ _ W (by omega) (by omega) (by omega) (by omega)
      have HDh := Lib.hid HD
      clear HD
      have M1 := min_cases (lo * 1000 / s)
      have M2 := min_cases ((hi * 1000 + s - 1) / s)
      generalize lo * 1000 / s = y1 at *
      generalize (hi * 1000 + s - 1) / s = y2 at *
      by_cases m1 : 1000000 < y1 <;> by_cases m2 : 1000000 < y2
      all_goals
        have G1 := Lib.hid M1
        have G2 := Lib.hid M2
        clear M1 M2
        have hs0 := hs'.out
        go_region_held3 (fun w' => Below wc.heap.size wc w') (first | assumption | exact bl_drewN (by assumption) _ | exact Below.drew (by assumption)) (first | (go_at_call 66; refine (HDh.out _).mono ?_; rintro e w' ⟨rfl, rfl⟩))
        all_goals
          clear r1 r2 r3 r4
          go_wp2_with fail
          go_ret2
          first
            | exact ⟨ret2i (by rw [F.out.1, G1.out.1 m1]) (by rw [F.out.2, G2.out.1 m2]), bl_trans hb (by assumption)⟩
            | exact ⟨ret2i (by rw [F.out.1, G1.out.1 m1]) (by rw [F.out.2, G2.out.2 m2]), bl_trans hb (by assumption)⟩
            | exact ⟨ret2i (by rw [F.out.1, G1.out.2 m1]) (by rw [F.out.2, G2.out.1 m2]), bl_trans hb (by assumption)⟩
            | exact ⟨ret2i (by rw [F.out.1, G1.out.2 m1]) (by rw [F.out.2, G2.out.2 m2]), bl_trans hb (by assumption)⟩
def ixC (ls : List Ly) (k r u d : Int) : Int := if okL ls then (if inB k 0 ((ls.length : Int) - 1) then (if slopeB r u then (if inB d 0 1000 then 0 else 2) else 2) else 2) else 1
def ixLo (ls : List Ly) (k r u d : Int) : Int := if h : ixC ls k r u d = 0 ∧ k.toNat < ls.length then idxLo (ls[k.toNat]'h.2) (stressF (loadF ls k.toNat) r u) d else 0
def ixHi (ls : List Ly) (k r u d : Int) : Int := if h : ixC ls k r u d = 0 ∧ k.toNat < ls.length then idxHi (ls[k.toNat]'h.2) (stressF (loadF ls k.toNat) r u) d else 0
theorem ix_no {ls : List Ly} {k r u d : Int} (c : Int) (hc : ixC ls k r u d = c) (h0 : c ≠ 0) : ixLo ls k r u d = 0 ∧ ixHi ls k r u d = 0 ∧ ixC ls k r u d = c := by
  refine ⟨dif_neg (fun e => h0 (hc ▸ e.1)), dif_neg (fun e => h0 (hc ▸ e.1)), hc⟩
theorem ix_1 {ls : List Ly} (h : okL ls = false) (k r u d : Int) : ixLo ls k r u d = 0 ∧ ixHi ls k r u d = 0 ∧ ixC ls k r u d = 1 := ix_no 1 (by unfold ixC; rw [h]; rfl) (by decide)
theorem ix_2 {ls : List Ly} {k : Int} (h : okL ls = true) (h2 : inB k 0 ((ls.length : Int) - 1) = false) (r u d : Int) : ixLo ls k r u d = 0 ∧ ixHi ls k r u d = 0 ∧ ixC ls k r u d = 2 := ix_no 2 (by unfold ixC; rw [h, h2]; rfl) (by decide)
theorem ix_3 {ls : List Ly} {k r u : Int} (h : okL ls = true) (h2 : inB k 0 ((ls.length : Int) - 1) = true) (h3 : slopeB r u = false) (d : Int) : ixLo ls k r u d = 0 ∧ ixHi ls k r u d = 0 ∧ ixC ls k r u d = 2 := ix_no 2 (by unfold ixC; rw [h, h2, h3]; rfl) (by decide)
theorem ix_4 {ls : List Ly} {k r u d : Int} (h : okL ls = true) (h2 : inB k 0 ((ls.length : Int) - 1) = true) (h3 : slopeB r u = true) (h4 : inB d 0 1000 = false) : ixLo ls k r u d = 0 ∧ ixHi ls k r u d = 0 ∧ ixC ls k r u d = 2 := ix_no 2 (by unfold ixC; rw [h, h2, h3, h4]; rfl) (by decide)
theorem ix_0 {ls : List Ly} {k : Nat} {r u d : Int} (h : okL ls = true) (h2 : inB (k : Int) 0 ((ls.length : Int) - 1) = true) (h3 : slopeB r u = true) (h4 : inB d 0 1000 = true) (hk : k < ls.length) :
    ixLo ls k r u d = idxLo ls[k] (stressF (loadF ls k) r u) d ∧ ixHi ls k r u d = idxHi ls[k] (stressF (loadF ls k) r u) d ∧ ixC ls k r u d = 0 := by
  have hc : ixC ls k r u d = 0 := by unfold ixC; rw [h, h2, h3, h4]; rfl
  exact ⟨(dif_pos ⟨hc, by omega⟩).trans (by simp only [Int.toNat_natCast]), (dif_pos ⟨hc, by omega⟩).trans (by simp only [Int.toNat_natCast]), hc⟩
theorem specIndex_any (A : Option Addr) (c : Nat) (ls : List Ly) (k r u d : Int) (w : World) (hr : RdL w A ls) (hn : ls.length ≤ 1048576) (hc : ls.length ≤ c) :
    Calls Try.prog 21 #[.slice A ls.length c, .int .i64 k, .int .i64 r, .int .i64 u, .int .i64 d] w fun e w' => e = .returned (.tuple #[.int .i64 (ixLo ls k r u d), .int .i64 (ixHi ls k r u d), .int .i64 (ixC ls k r u d)]) ∧ Below w.heap.size w w' := by
  rcases hok : okL ls with _ | _
  · have F := Lib.hid (ix_1 hok k r u d)
    have G := ask_1 hok k
    go_enter Try.func21, Try.ntmps21
    go_wp2_with (go_at_call 41; refine (l03Ask_any A c ls _ _ hr hn).mono ?_; rintro e w' ⟨rfl, rfl⟩)
    go_ret3
    exact ⟨r3 F.out, Below.refl _ _⟩
  rcases hin : inB k 0 ((ls.length : Int) - 1) with _ | _
  · have F := Lib.hid (ix_2 hok hin r u d)
    have G := ask_2 hok hin
    go_enter Try.func21, Try.ntmps21
    go_wp2_with (go_at_call 41; refine (l03Ask_any A c ls _ _ hr hn).mono ?_; rintro e w' ⟨rfl, rfl⟩)
    go_ret3
    exact ⟨r3 F.out, Below.refl _ _⟩
  have G := ask_0 hok hin
  rcases hsl : slopeB r u with _ | _
  · have F := Lib.hid (ix_3 hok hin hsl d)
    go_enter Try.func21, Try.ntmps21
    go_wp2_with (first | (go_at_call 41; refine (l03Ask_any A c ls _ _ hr hn).mono ?_; rintro e w' ⟨rfl, rfl⟩) | (go_at_call 42; refine (l07Slope_any _ _ _).mono ?_; rintro e w' ⟨rfl, rfl⟩) | (go_at_call 49; refine (l07Doubt_any _ _).mono ?_; rintro e w' ⟨rfl, rfl⟩))
    go_ret3
    exact ⟨r3 F.out, Below.refl _ _⟩
  rcases hd : inB d 0 1000 with _ | _
  · have F := Lib.hid (ix_4 hok hin hsl hd)
    go_enter Try.func21, Try.ntmps21
    go_wp2_with (first | (go_at_call 41; refine (l03Ask_any A c ls _ _ hr hn).mono ?_; rintro e w' ⟨rfl, rfl⟩) | (go_at_call 42; refine (l07Slope_any _ _ _).mono ?_; rintro e w' ⟨rfl, rfl⟩) | (go_at_call 49; refine (l07Doubt_any _ _).mono ?_; rintro e w' ⟨rfl, rfl⟩))
    go_ret3
    exact ⟨r3 F.out, Below.refl _ _⟩
  obtain ⟨k0, k1⟩ := inB_yes hin
  obtain ⟨m, rfl⟩ := Int.eq_ofNat_of_zero_le k0
  have hm : m < ls.length := by omega
  have F := Lib.hid (ix_0 hok hin hsl hd hm)
  have V := VL.of_ok hok
  obtain ⟨⟨r0, r1⟩, u0, u1⟩ := slopeB_b hsl
  obtain ⟨d0, d1⟩ := inB_yes hd
  go_enter Try.func21, Try.ntmps21
  go_wp2_with (first | (go_at_call 41; refine (l03Ask_any A c ls _ _ hr hn).mono ?_; rintro e w' ⟨rfl, rfl⟩) | (go_at_call 42; refine (l07Slope_any _ _ _).mono ?_; rintro e w' ⟨rfl, rfl⟩) | (go_at_call 49; refine (l07Doubt_any _ _).mono ?_; rintro e w' ⟨rfl, rfl⟩) | (go_at_call 50; refine (l07Index_any A c ls m r u d hm _ hr V hc r0 r1 u0 u1 d0 d1).mono ?_; rintro e w1 ⟨rfl, hb1⟩))
  go_ret3
  exact ⟨r3 F.out, hb1⟩
theorem implIndex_any (A : Option Addr) (c : Nat) (ls : List Ly) (k r u d : Int) (w : World) (hr : RdL w A ls) (hn : ls.length ≤ 1048576) (hc : ls.length ≤ c) :
    Calls Try.prog 22 #[.slice A ls.length c, .int .i64 k, .int .i64 r, .int .i64 u, .int .i64 d] w fun e w' => e = .returned (.tuple #[.int .i64 (ixLo ls k r u d), .int .i64 (ixHi ls k r u d), .int .i64 (ixC ls k r u d)]) ∧ Below w.heap.size w w' := by
  rcases hok : okL ls with _ | _
  · have F := Lib.hid (ix_1 hok k r u d)
    go_enter Try.func22, Try.ntmps22
    go_wp2_with (go_at_call 32; refine (validProfile_any A c ls _ hr hn).mono ?_; rintro e w1 ⟨rfl, hb1⟩)
    go_ret3
    exact ⟨r3 F.out, hb1⟩
  rcases hin : inB k 0 ((ls.length : Int) - 1) with _ | _
  · have F := Lib.hid (ix_2 hok hin r u d)
    go_enter Try.func22, Try.ntmps22
    go_wp2_with (first | (go_at_call 32; refine (validProfile_any A c ls _ hr hn).mono ?_; rintro e w1 ⟨rfl, hb1⟩) | (go_at_call 45; refine (indexValid_any A c ls _ _ hn).mono ?_; rintro e w' ⟨rfl, rfl⟩))
    go_ret3
    exact ⟨r3 F.out, hb1⟩
  rcases hsl : slopeB r u with _ | _
  · have F := Lib.hid (ix_3 hok hin hsl d)
    go_enter Try.func22, Try.ntmps22
    go_wp2_with (first | (go_at_call 32; refine (validProfile_any A c ls _ hr hn).mono ?_; rintro e w1 ⟨rfl, hb1⟩) | (go_at_call 45; refine (indexValid_any A c ls _ _ hn).mono ?_; rintro e w' ⟨rfl, rfl⟩) | (go_at_call 46; refine (slopeOk_any _ _ _).mono ?_; rintro e w' ⟨rfl, rfl⟩))
    go_ret3
    exact ⟨r3 F.out, hb1⟩
  rcases hd : inB d 0 1000 with _ | _
  · have F := Lib.hid (ix_4 hok hin hsl hd)
    go_enter Try.func22, Try.ntmps22
    go_wp2_with (first | (go_at_call 32; refine (validProfile_any A c ls _ hr hn).mono ?_; rintro e w1 ⟨rfl, hb1⟩) | (go_at_call 45; refine (indexValid_any A c ls _ _ hn).mono ?_; rintro e w' ⟨rfl, rfl⟩) | (go_at_call 46; refine (slopeOk_any _ _ _).mono ?_; rintro e w' ⟨rfl, rfl⟩) | (go_at_call 51; refine (doubtValid_any _ _).mono ?_; rintro e w' ⟨rfl, rfl⟩))
    go_ret3
    exact ⟨r3 F.out, hb1⟩
  obtain ⟨k0, k1⟩ := inB_yes hin
  obtain ⟨m, rfl⟩ := Int.eq_ofNat_of_zero_le k0
  have hm : m < ls.length := by omega
  have F := Lib.hid (ix_0 hok hin hsl hd hm)
  have V := VL.of_ok hok
  obtain ⟨⟨r0, r1⟩, u0, u1⟩ := slopeB_b hsl
  obtain ⟨d0, d1⟩ := inB_yes hd
  go_enter Try.func22, Try.ntmps22
  go_wp2_with (first | (go_at_call 32; refine (validProfile_any A c ls _ hr hn).mono ?_; rintro e w1 ⟨rfl, hb1⟩) | (go_at_call 45; refine (indexValid_any A c ls _ _ hn).mono ?_; rintro e w' ⟨rfl, rfl⟩) | (go_at_call 46; refine (slopeOk_any _ _ _).mono ?_; rintro e w' ⟨rfl, rfl⟩) | (go_at_call 51; refine (doubtValid_any _ _).mono ?_; rintro e w' ⟨rfl, rfl⟩) | (go_at_call 52; refine (index_any A c ls m r u d hm _ (hr.below hb1) V hc r0 r1 u0 u1 d0 d1).mono ?_; rintro e w2 ⟨rfl, hb2⟩))
  go_ret3
  exact ⟨r3 F.out, bl_trans hb1 hb2⟩
end Go.Proofs.Ytfndcahjjlcnaaa
