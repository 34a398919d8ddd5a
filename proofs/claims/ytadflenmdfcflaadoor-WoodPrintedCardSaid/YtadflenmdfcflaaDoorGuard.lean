/-
  Whole values loaded or built by an operation that is guarded, its guard being met.
-/
import Derived.Test.YtadflenmdfcflaaDoorBig
namespace Go.RowKit

theorem wpList_wanted {P : Program} {ops : Array Oper} {Q : Exit → Act → World → Prop} {a : Act} {w : World} {rest : List Oper} {o : Oper} (hw : Region.wanted o (yielded ops a.tmps) = true)
    (h : ∀ K : Act → World → Prop, (∀ a w, wpList P ops Q rest a w → K a w) → o.wp P a w K Q) : wpList P ops Q (o :: rest) a w := by
  refine wpList_step ?_
  intro K hK
  rw [if_pos hw]
  exact h K hK
theorem wpList_gload {P : Program} {ops : Array Oper} {rest : List Oper} {d : Option Tmp} {t : TypeId} {ty : TypeId} {pos : String} {af : Array Edge} {gd : Nat × Bool} {a : Act} {w : World} {Q : Exit → Act → World → Prop} {x : Operand}
    (b o : Nat) (cs : List Value) (hw : Region.wanted ⟨d, .load t x, ty, pos, af, some gd⟩ (yielded ops a.tmps) = true) (hx : a.eval x = .pointer (some ⟨b, o, none⟩)) (hc : w.rangeAt b o cs) {td : TypeDesc} (hu : P.underlying t = some td) (hd : td.isRow = true) (hi : (P.info? t).map (·.size) = some cs.length)
    (h : wpList P ops Q rest (a.put d (.agg cs.toArray)) w) : wpList P ops Q (⟨d, .load t x, ty, pos, af, some gd⟩ :: rest) a w :=
  wpList_wanted hw fun _ hK => wp_load_mid t x rfl b o hx cs td hc hu hd hi (hK _ _ h)
theorem wpList_gbuild {P : Program} {ops : Array Oper} {rest : List Oper} {d : Option Tmp} {t : TypeId} {ty : TypeId} {pos : String} {af : Array Edge} {gd : Nat × Bool} {a : Act} {w : World} {Q : Exit → Act → World → Prop} {ps : Array (Nat × Operand)} (cs : Array Value)
    (hw : Region.wanted ⟨d, .build t ps, ty, pos, af, some gd⟩ (yielded ops a.tmps) = true) (hf : P.built t ((ps.map fun (i, x) => (i, a.eval x)).toList) = some cs) (h : wpList P ops Q rest (a.put d (.agg cs)) w) : wpList P ops Q (⟨d, .build t ps, ty, pos, af, some gd⟩ :: rest) a w := by
  refine wpList_wanted hw fun _ hK => ?_
  unfold Oper.wp execOp
  simp only [Sem.run_bind]
  rw [run_build w t _ _ hf, Result.andThen_ok]
  exact hK _ _ h

end Go.RowKit
