/- What a row that lists strconv's two sentinels hands to a walk: that each holds an interface value. No condition. -/
import Derived.Test.YtcpdipopajhajaaDoorLaid
namespace Go.Proofs.YtcpdipopajhajaaDoor
open Go.ChangeShapes Go.WideShapes Go.ChangeAt Go.RowKit
theorem star_es : "*" ++ "errors.errorString" = "*errors.errorString" := by decide
theorem row_es (u : TypeId) (h : Tryd.prog.typeName? 3 u = some "*errors.errorString") : u = 141 :=
  typeName_ptr_named (nm := "errors.errorString") (by rw [star_es]; kernel_rfl) (by kernel_rfl) (by decide) u (by rw [star_es]; exact h)
def SynOk (w : World) : Prop := ∃ tp p, w.cell? ⟨1, 0, none⟩ = some (.iface tp p)
def RngOk (w : World) : Prop := ∃ tp p, w.cell? ⟨2, 0, none⟩ = some (.iface tp p)
theorem SynOk.on {w w' : World} (h : SynOk w) (hb : Below w.heap.size w w') : SynOk w' := by
  obtain ⟨tp, p, hc⟩ := h
  exact ⟨tp, p, (hb.cell (World.block_lt_of_cell? w _ hc)).trans hc⟩
theorem RngOk.on {w w' : World} (h : RngOk w) (hb : Below w.heap.size w w') : RngOk w' := by
  obtain ⟨tp, p, hc⟩ := h
  exact ⟨tp, p, (hb.cell (World.block_lt_of_cell? w _ hc)).trans hc⟩
theorem gES : Tryd.prog.globalNamed "strconv.ErrSyntax" = some 1 := by kernel_rfl
theorem gER : Tryd.prog.globalNamed "strconv.ErrRange" = some 2 := by kernel_rfl
theorem hES_of_met {rest : List (String × DataW Unit)} {W : World} (h : laidMet Tryd.prog (("strconv.ErrSyntax", Rows.laid_strconv_ErrSyntax) :: rest) W) : SynOk W := by
  obtain ⟨a0, s0, hv0, -, -, -⟩ := laid_sentinel h gES (by kernel_rfl : _ = some 75) Tryd.underlying75 row_es Tryd.underlying141 Tryd.underlying143 rfl rfl Tryd.underlying9 (by kernel_rfl) (by kernel_rfl)
  exact ⟨_, _, by have h0 := World.var?_cell gES hv0 0; simpa using h0⟩
theorem hER_of_met {rest : List (String × DataW Unit)} {W : World} (h : laidMet Tryd.prog (("strconv.ErrRange", Rows.laid_strconv_ErrRange) :: rest) W) : RngOk W := by
  obtain ⟨a0, s0, hv0, -, -, -⟩ := laid_sentinel h gER (by kernel_rfl : _ = some 75) Tryd.underlying75 row_es Tryd.underlying141 Tryd.underlying143 rfl rfl Tryd.underlying9 (by kernel_rfl) (by kernel_rfl)
  exact ⟨_, _, by have h0 := World.var?_cell gER hv0 0; simpa using h0⟩
end Go.Proofs.YtcpdipopajhajaaDoor
