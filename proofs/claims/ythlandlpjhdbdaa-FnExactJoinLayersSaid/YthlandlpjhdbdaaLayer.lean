/- Layers of snow by value: a structure of seven numbers, its check as a Bool, the opening of an argument, and the contracts of the functions that look at one layer. No condition. -/
import Derived.Test.YthlandlpjhdbdaaBase
import Derived.Lib.SmallJoins
import Derived.Deep.Fields
namespace Go.Proofs.Ythlandlpjhdbdaa
open Go.ChangeShapes Go.WideShapes Go.ChangeAt Go.RowKit Go.Joins Go.Deep
structure Ly where
  form : Int
  ice : Int
  water : Int
  dens : Int
  deg : Int
  hard : Int
  age : Int
def Ly.wf (x : Ly) : Prop := (Lit.int .i64 x.form).wf = true ∧ (Lit.int .i64 x.ice).wf = true ∧ (Lit.int .i64 x.water).wf = true ∧ (Lit.int .i64 x.dens).wf = true ∧ (Lit.int .i64 x.deg).wf = true ∧ (Lit.int .i64 x.hard).wf = true ∧ (Lit.int .i64 x.age).wf = true
section
variable {H : Type} {enc : TypeId × Value → H} {P : Program} {w : World} {base : Nat} {spare : Nat → Bool} {held : Bool}
theorem open_agg7 {r : Reach} {b0 : Nat} {t : TypeId} {f0 f1 f2 f3 f4 f5 f6 : Field} {v : Value} {d : DataW H} {p : List MemPlace} (hs : P.underlying t = some (.struct #[f0, f1, f2, f3, f4, f5, f6])) (hone : oneCellFields P #[f0, f1, f2, f3, f4, f5, f6] = true) (hC : P.cellsOf t = 7)
    (hv : Value.okWide P w r b0 t v) (h : DataW.Trod enc P w base spare held t v d p) :
    ∃ (v0 v1 v2 v3 v4 v5 v6 : Value) (y0 y1 y2 y3 y4 y5 y6 : DataW H × List MemPlace) (n : Nat), v = .agg #[v0, v1, v2, v3, v4, v5, v6] ∧
      DataW.trod enc P w base spare held n f0.type [v0] = some y0 ∧ DataW.trod enc P w base spare held n f1.type [v1] = some y1 ∧ DataW.trod enc P w base spare held n f2.type [v2] = some y2 ∧ DataW.trod enc P w base spare held n f3.type [v3] = some y3 ∧ DataW.trod enc P w base spare held n f4.type [v4] = some y4 ∧ DataW.trod enc P w base spare held n f5.type [v5] = some y5 ∧ DataW.trod enc P w base spare held n f6.type [v6] = some y6 := by
  obtain ⟨cs, rfl, hsz⟩ := okWide_struct hs hv
  obtain ⟨l⟩ := cs
  match l, hsz.trans hC with
  | [c0, c1, c2, c3, c4, c5, c6], _ =>
    obtain ⟨fuel, hf⟩ := h
    obtain ⟨xs, n, _, hx, _, hlen, hg⟩ := DataW.trod_struct hs hf
    obtain ⟨o0, k0⟩ := hone_of hone 0 f0 rfl
    obtain ⟨o1, k1⟩ := hone_of hone 1 f1 rfl
    obtain ⟨o2, k2⟩ := hone_of hone 2 f2 rfl
    obtain ⟨o3, k3⟩ := hone_of hone 3 f3 rfl
    obtain ⟨o4, k4⟩ := hone_of hone 4 f4 rfl
    obtain ⟨o5, k5⟩ := hone_of hone 5 f5 rfl
    obtain ⟨o6, k6⟩ := hone_of hone 6 f6 rfl
    match xs, hlen with
    | [y0, y1, y2, y3, y4, y5, y6], _ =>
      exact ⟨c0, c1, c2, c3, c4, c5, c6, y0, y1, y2, y3, y4, y5, y6, n, rfl, by simpa [Value.cells, o0, k0] using hg 0 f0 rfl, by simpa [Value.cells, o1, k1] using hg 1 f1 rfl, by simpa [Value.cells, o2, k2] using hg 2 f2 rfl, by simpa [Value.cells, o3, k3] using hg 3 f3 rfl, by simpa [Value.cells, o4, k4] using hg 4 f4 rfl, by simpa [Value.cells, o5, k5] using hg 5 f5 rfl, by simpa [Value.cells, o6, k6] using hg 6 f6 rfl⟩
end
theorem open_layer {H : Type} {enc : TypeId × Value → H} {W : World} {r : Reach} {b0 : Nat} {spare : Nat → Bool} {held : Bool} {base : Nat} {v : Value} {d : DataW H} {p : List MemPlace}
    (hv : Value.okWide Try.prog W r b0 39 v) (h : DataW.Trod enc Try.prog W base spare held 39 v d p) :
    ∃ x : Ly, v = .agg #[.int .i64 x.form, .int .i64 x.ice, .int .i64 x.water, .int .i64 x.dens, .int .i64 x.deg, .int .i64 x.hard, .int .i64 x.age] ∧ x.wf := by
  obtain ⟨v0, v1, v2, v3, v4, v5, v6, y0, y1, y2, y3, y4, y5, y6, n, rfl, h0, h1, h2, h3, h4, h5, h6⟩ := open_agg7 Try.underlying39 (by kernel_rfl) (by kernel_rfl) hv h
  obtain ⟨n0, e0, _, w0⟩ := DataW.trod_int Try.underlying2 h0
  obtain ⟨n1, e1, _, w1⟩ := DataW.trod_int Try.underlying2 h1
  obtain ⟨n2, e2, _, w2⟩ := DataW.trod_int Try.underlying2 h2
  obtain ⟨n3, e3, _, w3⟩ := DataW.trod_int Try.underlying2 h3
  obtain ⟨n4, e4, _, w4⟩ := DataW.trod_int Try.underlying2 h4
  obtain ⟨n5, e5, _, w5⟩ := DataW.trod_int Try.underlying2 h5
  obtain ⟨n6, e6, _, w6⟩ := DataW.trod_int Try.underlying2 h6
  simp at e0 e1 e2 e3 e4 e5 e6
  subst e0 e1 e2 e3 e4 e5 e6
  exact ⟨⟨n0, n1, n2, n3, n4, n5, n6⟩, rfl, w0, w1, w2, w3, w4, w5, w6⟩
/-! ### the check of one layer -/
def lyOk (x : Ly) : Bool := inB x.form 1 6 && (inB x.ice 1 1000000 && (inB x.water 0 1000000 && (inB x.dens 30 900 && (inB x.deg (-4000) 0 && (inB x.hard 1 6 && inB x.age 0 10000)))))
theorem toLayer_any (x : Ly) (w : World) : Calls Try.prog 15 #[.agg #[.int .i64 x.form, .int .i64 x.ice, .int .i64 x.water, .int .i64 x.dens, .int .i64 x.deg, .int .i64 x.hard, .int .i64 x.age]] w fun e w' => e = .returned (.agg #[.int .i64 x.form, .int .i64 x.ice, .int .i64 x.water, .int .i64 x.dens, .int .i64 x.deg, .int .i64 x.hard, .int .i64 x.age]) ∧ Below w.heap.size w w' := by
  go_enter Try.func15, Try.ntmps15
  go_wp2
  refine bodyPost_ret (v := .agg #[.int .i64 x.form, .int .i64 x.ice, .int .i64 x.water, .int .i64 x.dens, .int .i64 x.deg, .int .i64 x.hard, .int .i64 x.age]) (by simp [results, Try.results15, go_sem]) rfl ⟨rfl, ?_⟩
  repeat (first | exact Below.refl _ _ | apply bl_alloc)
theorem lyOk_f0 {x : Ly} (h : inB x.form 1 6 = false) : lyOk x = false := by simp [lyOk, h]
theorem lyOk_f1 {x : Ly} (h : inB x.ice 1 1000000 = false) : lyOk x = false := by simp [lyOk, h]
theorem lyOk_f2 {x : Ly} (h : inB x.water 0 1000000 = false) : lyOk x = false := by simp [lyOk, h]
theorem lyOk_f3 {x : Ly} (h : inB x.dens 30 900 = false) : lyOk x = false := by simp [lyOk, h]
theorem lyOk_f4 {x : Ly} (h : inB x.deg (-4000) 0 = false) : lyOk x = false := by simp [lyOk, h]
theorem lyOk_f5 {x : Ly} (h : inB x.hard 1 6 = false) : lyOk x = false := by simp [lyOk, h]
theorem lyOk_f6 {x : Ly} (h : inB x.age 0 10000 = false) : lyOk x = false := by simp [lyOk, h]
theorem lyOk_t {x : Ly} (h0 : inB x.form 1 6 = true) (h1 : inB x.ice 1 1000000 = true) (h2 : inB x.water 0 1000000 = true) (h3 : inB x.dens 30 900 = true) (h4 : inB x.deg (-4000) 0 = true) (h5 : inB x.hard 1 6 = true) (h6 : inB x.age 0 10000 = true) : lyOk x = true := by simp [lyOk, h0, h1, h2, h3, h4, h5, h6]
set_option maxHeartbeats 1000000 in
theorem validLayer_any (x : Ly) (w : World) : Calls Try.prog 19 #[.agg #[.int .i64 x.form, .int .i64 x.ice, .int .i64 x.water, .int .i64 x.dens, .int .i64 x.deg, .int .i64 x.hard, .int .i64 x.age]] w fun e w' => e = .returned (.bool (lyOk x)) ∧ Below w.heap.size w w' := by
  rcases h0 : inB x.form 1 6 with _ | _
  · have F := Lib.hid (lyOk_f0 h0)
    go_enter Try.func19, Try.ntmps19
    go_wp2_with (go_at_call 17; refine (within_any _ _ _ _).mono ?_; rintro e w' ⟨rfl, rfl⟩)
    go_ret
    exact ⟨(ret_bool F.out).symm, by repeat (first | exact Below.refl _ _ | apply bl_alloc)⟩
  rcases h1 : inB x.ice 1 1000000 with _ | _
  · have F := Lib.hid (lyOk_f1 h1)
    go_enter Try.func19, Try.ntmps19
    go_wp2_with (go_at_call 17; refine (within_any _ _ _ _).mono ?_; rintro e w' ⟨rfl, rfl⟩)
    go_ret
    exact ⟨(ret_bool F.out).symm, by repeat (first | exact Below.refl _ _ | apply bl_alloc)⟩
  rcases h2 : inB x.water 0 1000000 with _ | _
  · have F := Lib.hid (lyOk_f2 h2)
    go_enter Try.func19, Try.ntmps19
    go_wp2_with (go_at_call 17; refine (within_any _ _ _ _).mono ?_; rintro e w' ⟨rfl, rfl⟩)
    go_ret
    exact ⟨(ret_bool F.out).symm, by repeat (first | exact Below.refl _ _ | apply bl_alloc)⟩
  rcases h3 : inB x.dens 30 900 with _ | _
  · have F := Lib.hid (lyOk_f3 h3)
    go_enter Try.func19, Try.ntmps19
    go_wp2_with (go_at_call 17; refine (within_any _ _ _ _).mono ?_; rintro e w' ⟨rfl, rfl⟩)
    go_ret
    exact ⟨(ret_bool F.out).symm, by repeat (first | exact Below.refl _ _ | apply bl_alloc)⟩
  rcases h4 : inB x.deg (-4000) 0 with _ | _
  · have F := Lib.hid (lyOk_f4 h4)
    go_enter Try.func19, Try.ntmps19
    go_wp2_with (go_at_call 17; refine (within_any _ _ _ _).mono ?_; rintro e w' ⟨rfl, rfl⟩)
    go_ret
    exact ⟨(ret_bool F.out).symm, by repeat (first | exact Below.refl _ _ | apply bl_alloc)⟩
  rcases h5 : inB x.hard 1 6 with _ | _
  · have F := Lib.hid (lyOk_f5 h5)
    go_enter Try.func19, Try.ntmps19
    go_wp2_with (go_at_call 17; refine (within_any _ _ _ _).mono ?_; rintro e w' ⟨rfl, rfl⟩)
    go_ret
    exact ⟨(ret_bool F.out).symm, by repeat (first | exact Below.refl _ _ | apply bl_alloc)⟩
  rcases h6 : inB x.age 0 10000 with _ | _
  · have F := Lib.hid (lyOk_f6 h6)
    go_enter Try.func19, Try.ntmps19
    go_wp2_with (go_at_call 17; refine (within_any _ _ _ _).mono ?_; rintro e w' ⟨rfl, rfl⟩)
    go_ret
    exact ⟨(ret_bool F.out).symm, by repeat (first | exact Below.refl _ _ | apply bl_alloc)⟩
  have F := Lib.hid (lyOk_t h0 h1 h2 h3 h4 h5 h6)
  go_enter Try.func19, Try.ntmps19
  go_wp2_with (go_at_call 17; refine (within_any _ _ _ _).mono ?_; rintro e w' ⟨rfl, rfl⟩)
  go_ret
  exact ⟨(ret_bool F.out).symm, by repeat (first | exact Below.refl _ _ | apply bl_alloc)⟩
/-- The seven cells of a layer at an address. -/
structure LyAt (w : World) (g o : Nat) (x : Ly) : Prop where
  c0 : w.cell? ⟨g, o, none⟩ = some (.int .i64 x.form)
  c1 : w.cell? ⟨g, o + 1, none⟩ = some (.int .i64 x.ice)
  c2 : w.cell? ⟨g, o + 2, none⟩ = some (.int .i64 x.water)
  c3 : w.cell? ⟨g, o + 3, none⟩ = some (.int .i64 x.dens)
  c4 : w.cell? ⟨g, o + 4, none⟩ = some (.int .i64 x.deg)
  c5 : w.cell? ⟨g, o + 5, none⟩ = some (.int .i64 x.hard)
  c6 : w.cell? ⟨g, o + 6, none⟩ = some (.int .i64 x.age)
theorem LyAt.below {w w' : World} {B g o : Nat} {x : Ly} (h : LyAt w g o x) (hb : Below B w w') (hg : g < B) : LyAt w' g o x :=
  ⟨(hb.cell (p := ⟨g, _, none⟩) hg).trans h.c0, (hb.cell (p := ⟨g, _, none⟩) hg).trans h.c1, (hb.cell (p := ⟨g, _, none⟩) hg).trans h.c2, (hb.cell (p := ⟨g, _, none⟩) hg).trans h.c3, (hb.cell (p := ⟨g, _, none⟩) hg).trans h.c4, (hb.cell (p := ⟨g, _, none⟩) hg).trans h.c5, (hb.cell (p := ⟨g, _, none⟩) hg).trans h.c6⟩
theorem LyAt.box {w : World} {g : Nat} {x : Ly} (h : LyAt w g 0 x) : w.cell? ⟨g, 0, none⟩ = some (.int .i64 x.form) ∧ w.cell? ⟨g, 1, none⟩ = some (.int .i64 x.ice) ∧ w.cell? ⟨g, 2, none⟩ = some (.int .i64 x.water) ∧ w.cell? ⟨g, 3, none⟩ = some (.int .i64 x.dens) ∧ w.cell? ⟨g, 4, none⟩ = some (.int .i64 x.deg) ∧ w.cell? ⟨g, 5, none⟩ = some (.int .i64 x.hard) ∧ w.cell? ⟨g, 6, none⟩ = some (.int .i64 x.age) :=
  ⟨h.c0, h.c1, h.c2, h.c3, h.c4, h.c5, h.c6⟩
theorem LyAt.new (w : World) (t : TypeId) (x : Ly) : LyAt (w.alloc (.cells #[.int .i64 x.form, .int .i64 x.ice, .int .i64 x.water, .int .i64 x.dens, .int .i64 x.deg, .int .i64 x.hard, .int .i64 x.age] t)) w.heap.size 0 x := by
  constructor <;> simp [go_sem]
set_option maxHeartbeats 1000000 in
theorem l03One_any (x : Ly) (g o : Nat) (w : World) (hx : LyAt w g o x) : Calls Try.prog 14 #[.pointer (some ⟨g, o, none⟩)] w fun e w' => e = .returned (.bool (lyOk x)) ∧ w = w' := by
  obtain ⟨c0, c1, c2, c3, c4, c5, c6⟩ := hx
  rcases h0 : inB x.form 1 6 with _ | _
  · have F := Lib.hid (lyOk_f0 h0)
    go_enter Try.func14, Try.ntmps14
    go_wp2_with (go_at_call 12; refine (l00In_any _ _ _ _).mono ?_; rintro e w' ⟨rfl, rfl⟩)
    go_ret
    exact ⟨(ret_bool F.out).symm, rfl⟩
  rcases h1 : inB x.ice 1 1000000 with _ | _
  · have F := Lib.hid (lyOk_f1 h1)
    go_enter Try.func14, Try.ntmps14
    go_wp2_with (go_at_call 12; refine (l00In_any _ _ _ _).mono ?_; rintro e w' ⟨rfl, rfl⟩)
    go_ret
    exact ⟨(ret_bool F.out).symm, rfl⟩
  rcases h2 : inB x.water 0 1000000 with _ | _
  · have F := Lib.hid (lyOk_f2 h2)
    go_enter Try.func14, Try.ntmps14
    go_wp2_with (go_at_call 12; refine (l00In_any _ _ _ _).mono ?_; rintro e w' ⟨rfl, rfl⟩)
    go_ret
    exact ⟨(ret_bool F.out).symm, rfl⟩
  rcases h3 : inB x.dens 30 900 with _ | _
  · have F := Lib.hid (lyOk_f3 h3)
    go_enter Try.func14, Try.ntmps14
    go_wp2_with (go_at_call 12; refine (l00In_any _ _ _ _).mono ?_; rintro e w' ⟨rfl, rfl⟩)
    go_ret
    exact ⟨(ret_bool F.out).symm, rfl⟩
  rcases h4 : inB x.deg (-4000) 0 with _ | _
  · have F := Lib.hid (lyOk_f4 h4)
    go_enter Try.func14, Try.ntmps14
    go_wp2_with (go_at_call 12; refine (l00In_any _ _ _ _).mono ?_; rintro e w' ⟨rfl, rfl⟩)
    go_ret
    exact ⟨(ret_bool F.out).symm, rfl⟩
  rcases h5 : inB x.hard 1 6 with _ | _
  · have F := Lib.hid (lyOk_f5 h5)
    go_enter Try.func14, Try.ntmps14
    go_wp2_with (go_at_call 12; refine (l00In_any _ _ _ _).mono ?_; rintro e w' ⟨rfl, rfl⟩)
    go_ret
    exact ⟨(ret_bool F.out).symm, rfl⟩
  rcases h6 : inB x.age 0 10000 with _ | _
  · have F := Lib.hid (lyOk_f6 h6)
    go_enter Try.func14, Try.ntmps14
    go_wp2_with (go_at_call 12; refine (l00In_any _ _ _ _).mono ?_; rintro e w' ⟨rfl, rfl⟩)
    go_ret
    exact ⟨(ret_bool F.out).symm, rfl⟩
  have F := Lib.hid (lyOk_t h0 h1 h2 h3 h4 h5 h6)
  go_enter Try.func14, Try.ntmps14
  go_wp2_with (go_at_call 12; refine (l00In_any _ _ _ _).mono ?_; rintro e w' ⟨rfl, rfl⟩)
  go_ret
  exact ⟨(ret_bool F.out).symm, rfl⟩
end Go.Proofs.Ythlandlpjhdbdaa
