/-
  What the rows' condition on package-level variables gives the walks (chapter 19), and a world that meets it.
-/
import Derived.Test.YtokgonpeolppnaaDoorRow
import Derived.Test.YtokgonpeolppnaaDoorPrO
import Derived.LaidMore
import Derived.Stop.Joined
import Derived.Lib.LaidTab
namespace Go.Proofs.YtokgonpeolppnaaDoor
open Go.ChangeShapes Go.WideShapes Go.ChangeAt Go.RowKit Saw

def laidL : List (String × DataW Unit) := [("math/bits.deBruijn32tab", Rows.laid_math_bits_deBruijn32tab), ("math/bits.deBruijn64tab", Rows.laid_math_bits_deBruijn64tab), ("internal/strconv.uint64pow10", Rows.laid_internal_strconv_uint64pow10)]

set_option maxRecDepth 100000 in
theorem door_met (os : Os) (args : Array Value) : laidMetH Tryd.prog laidL ((World.doorLaid Tryd.prog 29 os).forCall (fun _ _ => 0) ⟨#[], args, []⟩).memory :=
  laidMetH_of_parts3 (fuel := 8) (laidMet_of_run' 8 (by kernel_rfl) (by kernel_rfl)) (by kernel_rfl) (by kernel_rfl)

theorem vars_of_laid {W : World} (h : laidMetH Tryd.prog laidL W) : VarsP W := by
  rw [MakeChecks.laidMetH_plain _ _ _ (by kernel_rfl)] at h
  obtain ⟨ps, ⟨_, _, _, _, _, _, _, _, _, _, ⟨_, _, _, _, _, _, _, _, _, _, ⟨g2, t2, cs2, f2, p2, q2, hg2, ht2, hv2, hd2, _, _⟩, _⟩, _⟩, _, _⟩ := h
  obtain rfl := Option.some.inj ((show Tryd.prog.globalNamed "internal/strconv.uint64pow10" = some 0 by kernel_rfl).symm.trans hg2)
  obtain rfl := Option.some.inj ((show (Tryd.prog.globals[0]?).map (·.type) = some 111 by kernel_rfl).symm.trans ht2)
  have t1 : Lib.TabIs Tryd.prog W "internal/strconv.uint64pow10" .u64 Lib.pow10Tab := by
    unfold Lib.TabIs
    rw [hv2, ← Lib.cells_of_tab (zs := Lib.pow10Tab) Tryd.underlying111 Tryd.underlying101 (by kernel_rfl) (by kernel_rfl) hd2]
  refine ⟨t1, ?_⟩
  obtain ⟨_, _, _, _, hlen, _, _⟩ := DataW.trod_array Tryd.underlying111 hd2
  have hcell := World.var?_cell hg2 hv2 0
  have hsz : 0 < cs2.size := by
    have h20 : Tryd.prog.cellsOf 111 = 20 := by kernel_rfl
    rw [h20] at hlen
    simp at hlen
    omega
  rw [Array.getElem?_eq_getElem hsz] at hcell
  exact World.block_lt_of_cell? W _ hcell

end Go.Proofs.YtokgonpeolppnaaDoor
