/-
  What the rows' condition on package-level variables gives the walks (chapter 37), and a world that meets it.
-/
import Derived.Test.YtabdlldkkcjppaaDoorRow
import Derived.Test.YtabdlldkkcjppaaDoorShA
import Derived.LaidMore
import Derived.Stop.Joined
import Derived.Lib.LaidTab
namespace Go.Proofs.YtabdlldkkcjppaaDoor
open Go.ChangeShapes Go.WideShapes Go.ChangeAt Go.RowKit Saw

def laidL : List (String × DataW Unit) := [("math/bits.deBruijn32tab", Rows.laid_math_bits_deBruijn32tab), ("math/bits.deBruijn64tab", Rows.laid_math_bits_deBruijn64tab), ("internal/strconv.uint64pow10", Rows.laid_internal_strconv_uint64pow10), ("sawmill/schedule.words", Rows.laid_sawmill_schedule_words)]

set_option maxRecDepth 100000 in
theorem door_met (os : Os) (args : Array Value) : laidMetH Tryd.prog laidL ((World.doorLaid Tryd.prog 29 os).forCall (fun _ _ => 0) ⟨#[], args, []⟩).memory :=
  laidMetH_of_parts3 (fuel := 8) (laidMet_of_run' 8 (by kernel_rfl) (by kernel_rfl)) (by kernel_rfl) (by kernel_rfl)

/-- A variable that is an array of strings, read as known bytes: its cells. -/
theorem strs_of {P : Program} {W : World} {g : Nat} {name : String} {t e : TypeId} {n fuel : Nat} {cs : Array Value} {l : List (List UInt8)} {p : List MemPlace} {spare : Nat → Bool} {held : Bool} {H : Type} {enc : TypeId × Value → H} (hg : P.globalNamed name = some g) (ht : P.underlying t = some (.array n e)) (he : P.underlying e = some .string) (hce : P.cellsOf e = 1)
    (hv : W.var? P name = some cs) (hd : DataW.trod enc P W 0 spare held fuel t cs.toList = some (.agg (l.map fun s => .lit (.string s)), p)) : W.rangeAt g 0 (l.map fun s => .string (str s)) := by
  obtain ⟨xs, m, _, hx, _, hn, hel⟩ := DataW.trod_array ht hd
  simp only [Prod.mk.injEq, DataW.agg.injEq] at hx
  have hll : l.length = n := by have := congrArg List.length hx.1; simpa [hn] using this
  intro j v hj
  rw [Nat.zero_add, World.var?_cell hg hv j]
  have hjl : j < l.length := by have := (List.getElem?_eq_some_iff.1 hj).1; simpa using this
  have h1 := hel j (by omega)
  rw [hce, Nat.mul_one, List.getElem?_eq_getElem (by omega)] at h1
  obtain ⟨s, e1, e2, _⟩ := DataW.trod_string he h1
  have h2 : (xs.map (·.1))[j]? = some (.lit (.string s.data.toList)) := by rw [List.getElem?_map, List.getElem?_eq_getElem (by omega), e2]; rfl
  rw [← hx.1, List.getElem?_map, List.getElem?_eq_getElem hjl] at h2
  simp only [Option.map_some, Option.some.injEq, DataW.lit.injEq, Lit.string.injEq] at h2
  rw [List.getElem?_map, List.getElem?_eq_getElem hjl] at hj
  simp only [Option.map_some, Option.some.injEq] at hj
  have h3 : cs.toList[j]? = some (.string s) := by
    have : (cs.toList.drop j)[0]? = some (.string s) := by
      have h4 := congrArg (·[0]?) e1
      simpa [List.getElem?_take] using h4
    simpa using this
  rw [← hj, h2, ← Array.getElem?_toList, h3]
  exact congrArg (fun x => some (Value.string x)) (str_bts s).symm

theorem vars_of_laid {W : World} (h : laidMetH Tryd.prog laidL W) : VarsS W := by
  rw [MakeChecks.laidMetH_plain _ _ _ (by kernel_rfl)] at h
  obtain ⟨ps, ⟨_, _, _, _, _, _, _, _, _, _, ⟨g1, t1', cs1, f1, p1, q1, hg1, ht1, hv1, hd1, ⟨g2, t2, cs2, f2, p2, q2, hg2, ht2, hv2, hd2, ⟨g0, t0, cs0, f0, p0, q0, hg0, ht0, hv0, hd0, _, _⟩, _⟩, _⟩, _⟩, _, _⟩ := h
  obtain rfl := Option.some.inj ((show Tryd.prog.globalNamed "sawmill/schedule.words" = some 0 by kernel_rfl).symm.trans hg0)
  obtain rfl := Option.some.inj ((show (Tryd.prog.globals[0]?).map (·.type) = some 90 by kernel_rfl).symm.trans ht0)
  obtain rfl := Option.some.inj ((show Tryd.prog.globalNamed "internal/strconv.uint64pow10" = some 1 by kernel_rfl).symm.trans hg2)
  obtain rfl := Option.some.inj ((show (Tryd.prog.globals[1]?).map (·.type) = some 121 by kernel_rfl).symm.trans ht2)
  have t1 : Lib.TabIs Tryd.prog W "internal/strconv.uint64pow10" .u64 Lib.pow10Tab := by
    unfold Lib.TabIs
    rw [hv2, ← Lib.cells_of_tab (zs := Lib.pow10Tab) Tryd.underlying121 Tryd.underlying114 (by kernel_rfl) (by kernel_rfl) hd2]
  refine ⟨strs_of (l := [belowW, forW, atW]) hg0 Tryd.underlying90 Tryd.underlying9 (by kernel_rfl) hv0 hd0, t1, ?_, ?_⟩
  · obtain ⟨_, _, _, _, hlen, _, _⟩ := DataW.trod_array Tryd.underlying121 hd2
    have hcell := World.var?_cell hg2 hv2 0
    have hsz : 0 < cs2.size := by
      have h20 : Tryd.prog.cellsOf 121 = 20 := by kernel_rfl
      rw [h20] at hlen
      simp at hlen
      omega
    rw [Array.getElem?_eq_getElem hsz] at hcell
    exact World.block_lt_of_cell? W _ hcell
  · obtain ⟨_, _, _, _, hlen, _, _⟩ := DataW.trod_array Tryd.underlying90 hd0
    have hcell := World.var?_cell hg0 hv0 0
    have hsz : 0 < cs0.size := by
      have h3 : Tryd.prog.cellsOf 90 = 3 := by kernel_rfl
      rw [h3] at hlen
      simp at hlen
      omega
    rw [Array.getElem?_eq_getElem hsz] at hcell
    exact World.block_lt_of_cell? W _ hcell

end Go.Proofs.YtabdlldkkcjppaaDoor
