/-
  Regions that draw their order, whose callees make memory: a whole value loaded.
-/
import Derived.Test.YthineckpociomaaDoorBig
import Derived.Lib.QuietBelow
namespace Go.RowKit
open Go.Sort

theorem rangeAt_regrown {W : World} {b o : Nat} {cs : List Value} (h : W.rangeAt b o cs) (hb : b < W.heap.size) (d : Nat) (os : Array Obj) : (grow (redrawn W d) os).rangeAt b o cs :=
  rangeAt_below (below_regrown W d os) hb h

/-- A load of a whole value, in every world of the class. -/
theorem quiet_load {P : Program} {ops : Array Oper} {Q : Act → Prop} {rest : List Oper} {a : Act} {W : World} {d : Option Tmp} {t : TypeId} {x : Operand} {ty : TypeId} {pos : String} {af : Array Edge} {gd : Option (Nat × Bool)}
    (b o : Nat) (cs : List Value) (hw : Region.wanted ⟨d, .load t x, ty, pos, af, gd⟩ (yielded ops a.tmps) = true) (hx : a.eval x = .pointer (some ⟨b, o, none⟩)) (hc : W.rangeAt b o cs) (hb : b < W.heap.size)
    {td : TypeDesc} (hu : P.underlying t = some td) (hd : td.isRow = true) (hi : (P.info? t).map (·.size) = some cs.length)
    (h : wpQuiet P ops (fun w' => ∃ p : Regrown, w' = grow (redrawn W p.d) p.os) Q rest (a.put d (.agg cs.toArray))) :
    wpQuiet P ops (fun w' => ∃ p : Regrown, w' = grow (redrawn W p.d) p.os) Q (⟨d, .load t x, ty, pos, af, gd⟩ :: rest) a := by
  refine wpQuiet_step (fun K hK => ?_)
  rw [if_pos hw]
  refine ⟨.agg cs.toArray, ?_, hK _ h⟩
  rintro w' ⟨p, rfl⟩
  have hr := run_loadVar_mid (P := P) (grow (redrawn W p.d) p.os) b o t cs td (rangeAt_regrown hc hb _ _) hu hd hi
  unfold Oper.quietAt execOp
  simp only [hx, Instr.loadAt, Instr.sureAddr, Sem.run_bind, Sem.run_pure, Result.andThen_ok, hr]
  exact ⟨rfl, rfl⟩

end Go.RowKit
