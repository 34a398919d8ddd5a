/-
  sawmill/api.Species in memory: whole ones loaded, laid and stored; slices of them.
-/
import Derived.Test.YthineckpociomaaDoorWoodA
import Derived.Test.YthineckpociomaaDoorBig
namespace Go.Proofs.YthineckpociomaaDoor
open Go.RowKit Saw

theorem spC0 (x : Sp) : (spCells x)[0]? = some (.string (str x.name)) := rfl
theorem spC1 (x : Sp) : (spCells x)[1]? = some (.int .i64 x.green) := rfl
theorem spC2 (x : Sp) : (spCells x)[2]? = some (.int .i64 x.fast) := rfl
theorem spC3 (x : Sp) : (spCells x)[3]? = some (.int .i64 x.slow) := rfl
theorem spC4 (x : Sp) : (spCells x)[4]? = some (.int .i64 x.safe) := rfl
theorem spC5 (x : Sp) : (spCells x)[5]? = some (.int .i64 x.grad) := rfl
theorem spC6 (x : Sp) : (spCells x)[6]? = some (.int .i64 x.crack) := rfl
theorem spC7 (x : Sp) : (spCells x)[7]? = some (.int .i64 x.temp) := rfl
theorem spC8 (x : Sp) : (spCells x)[8]? = some (.int .i64 x.depress) := rfl
theorem spC9 (x : Sp) : (spCells x)[9]? = some (.int .i64 x.density) := rfl
theorem spC10 (x : Sp) : (spCells x)[10]? = some (.int .i64 x.stiff) := rfl
theorem spC11 (x : Sp) : (spCells x)[11]? = some (.int .i64 x.knots) := rfl
theorem spC12 (x : Sp) : (spCells x)[12]? = some (.int .i64 x.shrink) := rfl
theorem sp_info : (Tryd.prog.info? 24).map (·.size) = some 13 := by kernel_rfl
theorem sp_zero : ((Tryd.prog.info? 24).bind (·.zero)) = some (.agg #[.string ⟨#[]⟩, .int .i64 0, .int .i64 0, .int .i64 0, .int .i64 0, .int .i64 0, .int .i64 0, .int .i64 0, .int .i64 0, .int .i64 0, .int .i64 0, .int .i64 0, .int .i64 0]) := by kernel_rfl
theorem sp_one (x : Sp) : (spCells x).toArray.toList.all (·.oneCell') = true := rfl
theorem sp_size (x : Sp) : (spCells x).toArray.size = 13 := rfl
/-- An element of a slice: where its cells lie. -/
theorem RdSp.at_ {w : World} {B : Nat} {A : Option Addr} {m c : Nat} {l : List Sp} (h : Rd w B 13 (.slice A m c) l.length (spsCells l)) {i : Nat} {x : Sp} (hx : l[i]? = some x) :
    ∃ b off, A = some ⟨b, off, none⟩ ∧ b < B ∧ w.rangeAt b (off + i * 13) (spCells x) :=
  h.rangeAt (List.getElem?_eq_some_iff.1 hx).1 (spCells_len x) (sps_at l i x hx)

theorem sp_mem (x : Sp) : ∀ v ∈ spCells x, v.oneCell' = true := by
  have h := sp_one x
  rw [List.all_eq_true] at h
  exact h
theorem sp_there (W : World) : (W.alloc (.cells #[.string ⟨#[]⟩, .int .i64 0, .int .i64 0, .int .i64 0, .int .i64 0, .int .i64 0, .int .i64 0, .int .i64 0, .int .i64 0, .int .i64 0, .int .i64 0, .int .i64 0, .int .i64 0] 24)).there W.heap.size 0 13 := there_block (heap_alloc_last W _) rfl
theorem sp_thereB {W w2 : World} (hb : Below ((W.alloc (.cells #[.string ⟨#[]⟩, .int .i64 0, .int .i64 0, .int .i64 0, .int .i64 0, .int .i64 0, .int .i64 0, .int .i64 0, .int .i64 0, .int .i64 0, .int .i64 0, .int .i64 0, .int .i64 0] 24)).drew).heap.size ((W.alloc (.cells #[.string ⟨#[]⟩, .int .i64 0, .int .i64 0, .int .i64 0, .int .i64 0, .int .i64 0, .int .i64 0, .int .i64 0, .int .i64 0, .int .i64 0, .int .i64 0, .int .i64 0, .int .i64 0] 24)).drew) w2) : w2.there W.heap.size 0 13 :=
  there_below hb (show W.heap.size < (W.alloc (.cells #[.string ⟨#[]⟩, .int .i64 0, .int .i64 0, .int .i64 0, .int .i64 0, .int .i64 0, .int .i64 0, .int .i64 0, .int .i64 0, .int .i64 0, .int .i64 0, .int .i64 0, .int .i64 0] 24)).heap.size by rw [World.size_alloc]; omega) (sp_there W)

section
variable {ops : Array Oper} {rest : List Oper} {d : Option Tmp} {ty : TypeId} {pos : String} {af : Array Edge} {a : Act} {w : World} {Q : Exit → Act → World → Prop} {p q : Operand}
theorem sp_load (b o : Nat) (x : Sp) (hx : a.eval p = .pointer (some ⟨b, o, none⟩)) (hc : w.rangeAt b o (spCells x))
    (h : wpList Tryd.prog ops Q rest (a.put d (.agg (spCells x).toArray)) w) : wpList Tryd.prog ops Q (⟨d, .load 24 p, ty, pos, af, none⟩ :: rest) a w :=
  wpList_loadAs b o (spCells x) hx hc Tryd.underlying24 rfl sp_info h
theorem sp_alloc (h : ∀ c : Array Value, Hid (c.size = 13) → wpList Tryd.prog ops Q rest (a.put d (.pointer (some ⟨w.heap.size, 0, none⟩))) (w.alloc (.cells c 24))) : wpList Tryd.prog ops Q (⟨d, .alloc 24, ty, pos, af, none⟩ :: rest) a w :=
  wpList_allocAs _ sp_zero fun c hc => h c (by rw [hc]; rfl)
theorem sp_alloc0 (h : wpList Tryd.prog ops Q rest (a.put d (.pointer (some ⟨w.heap.size, 0, none⟩))) (w.alloc (.cells #[.string ⟨#[]⟩, .int .i64 0, .int .i64 0, .int .i64 0, .int .i64 0, .int .i64 0, .int .i64 0, .int .i64 0, .int .i64 0, .int .i64 0, .int .i64 0, .int .i64 0, .int .i64 0] 24))) : wpList Tryd.prog ops Q (⟨d, .alloc 24, ty, pos, af, none⟩ :: rest) a w :=
  wpList_allocAs _ sp_zero fun c hc => by rw [hc]; exact h
theorem sp_new {c : Array Value} (x : Sp) (N : Nat) (hx : a.eval p = .pointer (some ⟨N, 0, none⟩)) (hN : w.heap.size = N) (hy : a.eval q = .agg (spCells x).toArray) (hc : Hid (c.size = 13))
    (h : wpList Tryd.prog ops Q rest (a.put d undef) (w.alloc (.cells (spCells x).toArray 24))) : wpList Tryd.prog ops Q (⟨d, .store 24 p q, ty, pos, af, none⟩ :: rest) a (w.alloc (.cells c 24)) :=
  wpList_storeNew hx hN hy sp_info (hc.out.trans (sp_size x).symm) (sp_one x) h
theorem sp_put (g : Nat) (x : Sp) (hx : a.eval p = .pointer (some ⟨g, 0, none⟩)) (hy : a.eval q = .agg (spCells x).toArray) {old : Array Value} {t' : TypeId} (hg : w.heap[g]? = some (.cells old t' (0, 0))) (hs : Hid (old.size = 13))
    (h : wpList Tryd.prog ops Q rest (a.put d undef) (w.setRow g (spCells x).toArray)) : wpList Tryd.prog ops Q (⟨d, .store 24 p q, ty, pos, af, none⟩ :: rest) a w :=
  wpList_storeOld g _ hx hy hg sp_info (hs.out.trans (sp_size x).symm) (sp_one x) h
end

end Go.Proofs.YthineckpociomaaDoor
