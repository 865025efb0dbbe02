/- What the listed tables give: the cells of math/bits.deBruijn64tab; and the heap of the program's own start meets the condition. -/
import Derived.Test.YtlofopnjjeeehaaDoorRows
import Derived.Test.YtlofopnjjeeehaaDoorArgs
import Derived.ProofKit
import Derived.LaidMore
import Derived.Stop.Joined
import Derived.Stop.LaidErr
namespace Go.Proofs.YtlofopnjjeeehaaDoor
open Go.RowKit Go.WideShapes Go.ChangeShapes
abbrev laid2 : List (String × DataW Unit) := [("math/bits.deBruijn32tab", Rows.laid_math_bits_deBruijn32tab), ("math/bits.deBruijn64tab", Rows.laid_math_bits_deBruijn64tab)]
def tab64 : List Int := Lib.deBruijn64tab.map Int.ofNat
theorem tab64_data : (Rows.laid_math_bits_deBruijn64tab : DataW Unit) = Lib.tabData .u8 tab64 := by rfl
theorem g_ty : (Tryd.prog.globals[1]?).map (·.type) = some 115 := by kernel_rfl
theorem u_arr : Tryd.prog.underlying 115 = some (.array 64 5) := by kernel_rfl
theorem c_arr : Tryd.prog.cellsOf 115 = 64 := by kernel_rfl
theorem c_u8 : Tryd.prog.cellsOf 5 = 1 := by kernel_rfl
/-- the row's condition gives the table -/
theorem tab_of {W : World} (h : laidMetH Tryd.prog laid2 W) : TabAt 1 Lib.deBruijn64tab W ∧ 1 < W.heap.size := by
  rw [MakeChecks.laidMetH_plain _ _ _ (by kernel_rfl)] at h
  have h2 : laidMet Tryd.prog [("math/bits.deBruijn64tab", Lib.tabData .u8 tab64)] W := by
    rw [← tab64_data]
    exact laidMet.tail h
  have hT := Lib.tabIs_of_head g64 g_ty u_arr Tryd.underlying5 c_u8 c_arr h2
  have hc : TabAt 1 Lib.deBruijn64tab W := fun j hj => by
    have := hT.cell g64 j (by unfold tab64; rw [List.length_map]; exact hj)
    rw [this]
    unfold tab64
    simp [List.getD_eq_getElem?_getD, List.getElem?_eq_getElem hj]
  exact ⟨hc, cell_lt (hc 0 (by decide))⟩
end Go.Proofs.YtlofopnjjeeehaaDoor
