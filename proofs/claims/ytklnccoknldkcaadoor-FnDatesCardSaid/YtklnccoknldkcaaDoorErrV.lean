/- The two variables of strconv that a failing ParseInt hands on. -/
import Derived.Test.YtklnccoknldkcaaDoorTabMore
import Derived.Stop.LaidErr
namespace Go.Proofs.YtklnccoknldkcaaDoor
open Go.RowKit
set_option linter.unusedVariables false
def ErrC (w : World) : Prop := ∃ e1 e2, w.cell? ⟨3, 0, none⟩ = some e1 ∧ (e1 = .nilIface ∨ ∃ te pe, e1 = .iface te pe) ∧ w.cell? ⟨4, 0, none⟩ = some e2 ∧ (e2 = .nilIface ∨ ∃ te pe, e2 = .iface te pe)
theorem ErrC.then {w w' : World} (h : ErrC w) (hb : Below w.heap.size w w') : ErrC w' := by
  obtain ⟨e1, e2, h1, k1, h2, k2⟩ := h
  exact ⟨e1, e2, (hb.cell (p := ⟨3, 0, none⟩) (World.block_lt_of_cell? w _ h1)).trans h1, k1, (hb.cell (p := ⟨4, 0, none⟩) (World.block_lt_of_cell? w _ h2)).trans h2, k2⟩
theorem star : "*" ++ "errors.errorString" = "*errors.errorString" := by decide
theorem rowErr (u : TypeId) (h : Tryd.prog.typeName? 3 u = some "*errors.errorString") : u = 228 :=
  typeName_ptr_named (nm := "errors.errorString") (by rw [star]; kernel_rfl) (by kernel_rfl) (by decide) u (by rw [star]; exact h)
theorem err_of_laid {W : World} {x0 x1 x2 : String × DataW Unit} (hh : ((x0 :: x1 :: x2 :: ("strconv.ErrRange", Rows.laid_strconv_ErrRange) :: ("strconv.ErrSyntax", Rows.laid_strconv_ErrSyntax) :: []).all fun x => x.2.handleName?.isNone) = true)
    (h : laidMetH Tryd.prog (x0 :: x1 :: x2 :: ("strconv.ErrRange", Rows.laid_strconv_ErrRange) :: ("strconv.ErrSyntax", Rows.laid_strconv_ErrSyntax) :: []) W) : ErrC W := by
  rw [MakeChecks.laidMetH_plain _ _ _ hh] at h
  have gR : Tryd.prog.globalNamed "strconv.ErrRange" = some 4 := by kernel_rfl
  have gS : Tryd.prog.globalNamed "strconv.ErrSyntax" = some 3 := by kernel_rfl
  obtain ⟨a1, s1, hv1, -, -, -⟩ := laid_sentinel h.tail.tail.tail gR (by kernel_rfl) Tryd.underlying166 rowErr Tryd.underlying228 Tryd.underlying230 rfl rfl Tryd.underlying9 (by kernel_rfl) (by kernel_rfl)
  obtain ⟨a0, s0, hv0, -, -, -⟩ := laid_sentinel h.tail.tail.tail.tail gS (by kernel_rfl) Tryd.underlying166 rowErr Tryd.underlying228 Tryd.underlying230 rfl rfl Tryd.underlying9 (by kernel_rfl) (by kernel_rfl)
  exact ⟨_, _, (by have h0 := World.var?_cell gS hv0 0; simpa using h0), Or.inr ⟨_, _, rfl⟩, (by have h0 := World.var?_cell gR hv1 0; simpa using h0), Or.inr ⟨_, _, rfl⟩⟩
end Go.Proofs.YtklnccoknldkcaaDoor
