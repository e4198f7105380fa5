/- From the listed variables to the table that the fast road reads. -/
import Derived.Test.YtklnccoknldkcaaDoorDigits
import Derived.Test.YtklnccoknldkcaaDoorRows
import Derived.MakeChecks
namespace Go.Proofs.YtklnccoknldkcaaDoor
open Go.RowKit
theorem tab_data : (Rows.laid_internal_strconv_uint64pow10 : DataW Unit) = Lib.tabData .u64 Lib.pow10Tab := by kernel_rfl
theorem tab_of_vars {W : World} {n0 n1 : String} {d0 d1 : DataW Unit} {ps : List MemPlace} (h : DataW.LaidVars Tryd.prog W [(n0, d0), (n1, d1), ("internal/strconv.uint64pow10", Rows.laid_internal_strconv_uint64pow10)] ps) : Tab W := by
  obtain ⟨g0, t0, cs0, f0, p0, q0, _, _, _, _, ⟨g1, t1, cs1, f1, p1, q1, _, _, _, _, ⟨g, t, cs, fuel, p, q, hg, ht, hv, hd, _, _⟩, _⟩, _⟩ := h
  have hgN : Tryd.prog.globalNamed "internal/strconv.uint64pow10" = some 5 := by kernel_rfl
  obtain rfl := Option.some.inj (hgN.symm.trans hg)
  obtain rfl := Option.some.inj ((show (Tryd.prog.globals[5]?).map (·.type) = some 232 by kernel_rfl).symm.trans ht)
  rw [tab_data] at hd
  have hcs := Lib.cells_of_tab Tryd.underlying232 Tryd.underlying198 (by kernel_rfl) (by kernel_rfl) hd
  refine ⟨_, hgN, ?_, ?_⟩
  · unfold World.var? at hv
    rw [hgN] at hv
    simp only [Option.bind_some] at hv
    split at hv
    · rename_i h1; exact (Array.getElem?_eq_some_iff.1 h1).1
    · cases hv
  · unfold Lib.TabIs
    rw [hv, ← hcs]
theorem tab_of_laid {W : World} {n0 n1 : String} {d0 d1 : DataW Unit} (hh : ([(n0, d0), (n1, d1), ("internal/strconv.uint64pow10", Rows.laid_internal_strconv_uint64pow10)].all fun x => x.2.handleName?.isNone) = true)
    (h : laidMetH Tryd.prog [(n0, d0), (n1, d1), ("internal/strconv.uint64pow10", Rows.laid_internal_strconv_uint64pow10)] W) : Tab W := by
  rw [MakeChecks.laidMetH_plain _ _ _ hh] at h
  obtain ⟨ps, h, _⟩ := h
  exact tab_of_vars h
end Go.Proofs.YtklnccoknldkcaaDoor
