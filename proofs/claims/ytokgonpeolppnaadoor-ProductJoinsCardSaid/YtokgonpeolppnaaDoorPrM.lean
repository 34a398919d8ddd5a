/-
  Products in memory: whole ones loaded, laid and stored.
-/
import Derived.Test.YtokgonpeolppnaaDoorPrA
namespace Go.Proofs.YtokgonpeolppnaaDoor
open Go.RowKit Saw

theorem pr_info : (Tryd.prog.info? 29).map (·.size) = some 7 := by kernel_rfl
theorem pr_zero : ((Tryd.prog.info? 29).bind (·.zero)) = some (.agg #[.string ⟨#[]⟩, .int .i64 0, .int .i64 0, .int .i64 0, .int .i64 0, .slice none 0 0, .slice none 0 0]) := by kernel_rfl
theorem prCells_len (x : Pr) (lv pv : Value) : (prCells x lv pv).length = 7 := rfl
theorem pr_one (x : Pr) {lv pv : Value} (h1 : lv.oneCell' = true) (h2 : pv.oneCell' = true) : (prCells x lv pv).toArray.toList.all (·.oneCell') = true := by
  simp only [prCells, List.all_cons, List.all_nil, h1, h2, Bool.and_true]
  rfl
section
variable {ops : Array Oper} {rest : List Oper} {d : Option Tmp} {ty : TypeId} {pos : String} {af : Array Edge} {a : Act} {w : World} {Q : Exit → Act → World → Prop} {p q : Operand}
theorem pr_load (b o : Nat) (x : Pr) (lv pv : Value) (hx : a.eval p = .pointer (some ⟨b, o, none⟩)) (hc : w.rangeAt b o (prCells x lv pv))
    (h : wpList Tryd.prog ops Q rest (a.put d (.agg (prCells x lv pv).toArray)) w) : wpList Tryd.prog ops Q (⟨d, .load 29 p, ty, pos, af, none⟩ :: rest) a w :=
  wpList_loadAs b o (prCells x lv pv) hx hc Tryd.underlying29 rfl pr_info h
theorem pr_alloc (h : ∀ c : Array Value, Hid (c.size = 7) → wpList Tryd.prog ops Q rest (a.put d (.pointer (some ⟨w.heap.size, 0, none⟩))) (w.alloc (.cells c 29))) : wpList Tryd.prog ops Q (⟨d, .alloc 29, ty, pos, af, none⟩ :: rest) a w :=
  wpList_allocAs _ pr_zero fun c hc => h c (by rw [hc]; rfl)
theorem pr_new {c : Array Value} (x : Pr) (lv pv : Value) (N : Nat) (h1 : lv.oneCell' = true) (h2 : pv.oneCell' = true) (hx : a.eval p = .pointer (some ⟨N, 0, none⟩)) (hN : w.heap.size = N) (hy : a.eval q = .agg (prCells x lv pv).toArray) (hc : Hid (c.size = 7))
    (h : wpList Tryd.prog ops Q rest (a.put d undef) (w.alloc (.cells (prCells x lv pv).toArray 29))) : wpList Tryd.prog ops Q (⟨d, .store 29 p q, ty, pos, af, none⟩ :: rest) a (w.alloc (.cells c 29)) :=
  wpList_storeNew hx hN hy pr_info (hc.out.trans rfl) (pr_one x h1 h2) h
theorem pr_put (g : Nat) (x : Pr) (lv pv : Value) (h1 : lv.oneCell' = true) (h2 : pv.oneCell' = true) (hx : a.eval p = .pointer (some ⟨g, 0, none⟩)) (hy : a.eval q = .agg (prCells x lv pv).toArray) {old : Array Value} {t' : TypeId} (hg : w.heap[g]? = some (.cells old t' (0, 0))) (hs : Hid (old.size = 7))
    (h : wpList Tryd.prog ops Q rest (a.put d undef) (w.setRow g (prCells x lv pv).toArray)) : wpList Tryd.prog ops Q (⟨d, .store 29 p q, ty, pos, af, none⟩ :: rest) a w :=
  wpList_storeOld g _ hx hy hg pr_info (hs.out.trans rfl) (pr_one x h1 h2) h
end

end Go.Proofs.YtokgonpeolppnaaDoor
