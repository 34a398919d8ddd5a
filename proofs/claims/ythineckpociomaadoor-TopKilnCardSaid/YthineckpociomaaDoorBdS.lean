/-
  sawmill/api.Board in memory: whole ones loaded, laid and stored; slices of them.
-/
import Derived.Test.YthineckpociomaaDoorKiI
import Derived.Test.YthineckpociomaaDoorKiR
import Derived.Test.YthineckpociomaaDoorBig
namespace Go.Proofs.YthineckpociomaaDoor
open Go.RowKit Saw

def boCells (x : Bd) : List Value := [.string (str x.id), .string (str x.log), .string (str x.species), .int .i64 x.product, .int .i64 x.xa, .int .i64 x.xb, .int .i64 x.ya, .int .i64 x.yb, .int .i64 x.za, .int .i64 x.zb, .int .i64 x.volume, .slice x.da x.dn x.dc, .int .i64 x.wane, .int .i64 x.surf, .int .i64 x.core, .int .i64 x.stress, .bool x.dried, .int .i64 x.grade]
def bosCells (l : List Bd) : List Value := l.flatMap boCells
theorem boCells_len (x : Bd) : (boCells x).length = 18 := rfl
theorem bosCells_cons (x : Bd) (l : List Bd) : bosCells (x :: l) = boCells x ++ bosCells l := rfl
theorem bosCells_length (l : List Bd) : (bosCells l).length = l.length * 18 := by
  induction l with
  | nil => rfl
  | cons x r ih => rw [bosCells_cons, List.length_append, ih, boCells_len, List.length_cons]; omega
theorem bosCells_snoc (l : List Bd) (x : Bd) : bosCells (l ++ [x]) = bosCells l ++ boCells x := by simp [bosCells]
theorem bos_at (l : List Bd) (i : Nat) (x : Bd) (h : l[i]? = some x) (j : Nat) (hj : j < 18) : (bosCells l)[i * 18 + j]? = (boCells x)[j]? := by
  induction l generalizing i with
  | nil => simp at h
  | cons y r ih =>
    rw [bosCells_cons]
    cases i with
    | zero =>
      simp only [List.getElem?_cons_zero, Option.some.injEq] at h
      subst h
      rw [List.getElem?_append_left (by rw [boCells_len]; omega), Nat.zero_mul, Nat.zero_add]
    | succ k =>
      simp only [List.getElem?_cons_succ] at h
      rw [List.getElem?_append_right (by rw [boCells_len]; omega), boCells_len, ← ih k h]
      congr 1
      omega
/-- The slice value v reads as the list l. -/
def RdBo (w : World) (v : Value) (l : List Bd) : Prop := Rd w w.heap.size 18 v l.length (bosCells l)
theorem RdBo.form {w : World} {v : Value} {l : List Bd} (h : RdBo w v l) : ∃ A c, v = .slice A l.length c ∧ l.length ≤ c ∧ l.length ≤ maxLen := by
  obtain ⟨_, h2, A, c, rfl, hc, _⟩ := h
  exact ⟨A, c, rfl, hc, h2⟩
theorem boC0 (x : Bd) : (boCells x)[0]? = some (.string (str x.id)) := rfl
theorem boC1 (x : Bd) : (boCells x)[1]? = some (.string (str x.log)) := rfl
theorem boC2 (x : Bd) : (boCells x)[2]? = some (.string (str x.species)) := rfl
theorem boC3 (x : Bd) : (boCells x)[3]? = some (.int .i64 x.product) := rfl
theorem boC4 (x : Bd) : (boCells x)[4]? = some (.int .i64 x.xa) := rfl
theorem boC5 (x : Bd) : (boCells x)[5]? = some (.int .i64 x.xb) := rfl
theorem boC6 (x : Bd) : (boCells x)[6]? = some (.int .i64 x.ya) := rfl
theorem boC7 (x : Bd) : (boCells x)[7]? = some (.int .i64 x.yb) := rfl
theorem boC8 (x : Bd) : (boCells x)[8]? = some (.int .i64 x.za) := rfl
theorem boC9 (x : Bd) : (boCells x)[9]? = some (.int .i64 x.zb) := rfl
theorem boC10 (x : Bd) : (boCells x)[10]? = some (.int .i64 x.volume) := rfl
theorem boC11 (x : Bd) : (boCells x)[11]? = some (.slice x.da x.dn x.dc) := rfl
theorem boC12 (x : Bd) : (boCells x)[12]? = some (.int .i64 x.wane) := rfl
theorem boC13 (x : Bd) : (boCells x)[13]? = some (.int .i64 x.surf) := rfl
theorem boC14 (x : Bd) : (boCells x)[14]? = some (.int .i64 x.core) := rfl
theorem boC15 (x : Bd) : (boCells x)[15]? = some (.int .i64 x.stress) := rfl
theorem boC16 (x : Bd) : (boCells x)[16]? = some (.bool x.dried) := rfl
theorem boC17 (x : Bd) : (boCells x)[17]? = some (.int .i64 x.grade) := rfl
theorem bo_info : (Tryd.prog.info? 40).map (·.size) = some 18 := by kernel_rfl
theorem bo_zero : ((Tryd.prog.info? 40).bind (·.zero)) = some (.agg #[.string ⟨#[]⟩, .string ⟨#[]⟩, .string ⟨#[]⟩, .int .i64 0, .int .i64 0, .int .i64 0, .int .i64 0, .int .i64 0, .int .i64 0, .int .i64 0, .int .i64 0, .slice none 0 0, .int .i64 0, .int .i64 0, .int .i64 0, .int .i64 0, .bool false, .int .i64 0]) := by kernel_rfl
theorem bo_one (x : Bd) : (boCells x).toArray.toList.all (·.oneCell') = true := rfl
theorem bo_size (x : Bd) : (boCells x).toArray.size = 18 := rfl
/-- An element of a slice: where its cells lie. -/
theorem RdBo.at_ {w : World} {B : Nat} {A : Option Addr} {m c : Nat} {l : List Bd} (h : Rd w B 18 (.slice A m c) l.length (bosCells l)) {i : Nat} {x : Bd} (hx : l[i]? = some x) :
    ∃ b off, A = some ⟨b, off, none⟩ ∧ b < B ∧ w.rangeAt b (off + i * 18) (boCells x) :=
  h.rangeAt (List.getElem?_eq_some_iff.1 hx).1 (boCells_len x) (bos_at l i x hx)

theorem bo_mem (x : Bd) : ∀ v ∈ boCells x, v.oneCell' = true := by
  have h := bo_one x
  rw [List.all_eq_true] at h
  exact h
theorem bo_there (W : World) : (W.alloc (.cells #[.string ⟨#[]⟩, .string ⟨#[]⟩, .string ⟨#[]⟩, .int .i64 0, .int .i64 0, .int .i64 0, .int .i64 0, .int .i64 0, .int .i64 0, .int .i64 0, .int .i64 0, .slice none 0 0, .int .i64 0, .int .i64 0, .int .i64 0, .int .i64 0, .bool false, .int .i64 0] 40)).there W.heap.size 0 18 := there_block (heap_alloc_last W _) rfl
theorem bo_thereB {W w2 : World} (hb : Below ((W.alloc (.cells #[.string ⟨#[]⟩, .string ⟨#[]⟩, .string ⟨#[]⟩, .int .i64 0, .int .i64 0, .int .i64 0, .int .i64 0, .int .i64 0, .int .i64 0, .int .i64 0, .int .i64 0, .slice none 0 0, .int .i64 0, .int .i64 0, .int .i64 0, .int .i64 0, .bool false, .int .i64 0] 40)).drew).heap.size ((W.alloc (.cells #[.string ⟨#[]⟩, .string ⟨#[]⟩, .string ⟨#[]⟩, .int .i64 0, .int .i64 0, .int .i64 0, .int .i64 0, .int .i64 0, .int .i64 0, .int .i64 0, .int .i64 0, .slice none 0 0, .int .i64 0, .int .i64 0, .int .i64 0, .int .i64 0, .bool false, .int .i64 0] 40)).drew) w2) : w2.there W.heap.size 0 18 :=
  there_below hb (show W.heap.size < (W.alloc (.cells #[.string ⟨#[]⟩, .string ⟨#[]⟩, .string ⟨#[]⟩, .int .i64 0, .int .i64 0, .int .i64 0, .int .i64 0, .int .i64 0, .int .i64 0, .int .i64 0, .int .i64 0, .slice none 0 0, .int .i64 0, .int .i64 0, .int .i64 0, .int .i64 0, .bool false, .int .i64 0] 40)).heap.size by rw [World.size_alloc]; omega) (bo_there W)

section
variable {ops : Array Oper} {rest : List Oper} {d : Option Tmp} {ty : TypeId} {pos : String} {af : Array Edge} {a : Act} {w : World} {Q : Exit → Act → World → Prop} {p q : Operand}
theorem bo_load (b o : Nat) (x : Bd) (hx : a.eval p = .pointer (some ⟨b, o, none⟩)) (hc : w.rangeAt b o (boCells x))
    (h : wpList Tryd.prog ops Q rest (a.put d (.agg (boCells x).toArray)) w) : wpList Tryd.prog ops Q (⟨d, .load 40 p, ty, pos, af, none⟩ :: rest) a w :=
  wpList_loadAs b o (boCells x) hx hc Tryd.underlying40 rfl bo_info h
theorem bo_alloc (h : ∀ c : Array Value, Hid (c.size = 18) → wpList Tryd.prog ops Q rest (a.put d (.pointer (some ⟨w.heap.size, 0, none⟩))) (w.alloc (.cells c 40))) : wpList Tryd.prog ops Q (⟨d, .alloc 40, ty, pos, af, none⟩ :: rest) a w :=
  wpList_allocAs _ bo_zero fun c hc => h c (by rw [hc]; rfl)
theorem bo_alloc0 (h : wpList Tryd.prog ops Q rest (a.put d (.pointer (some ⟨w.heap.size, 0, none⟩))) (w.alloc (.cells #[.string ⟨#[]⟩, .string ⟨#[]⟩, .string ⟨#[]⟩, .int .i64 0, .int .i64 0, .int .i64 0, .int .i64 0, .int .i64 0, .int .i64 0, .int .i64 0, .int .i64 0, .slice none 0 0, .int .i64 0, .int .i64 0, .int .i64 0, .int .i64 0, .bool false, .int .i64 0] 40))) : wpList Tryd.prog ops Q (⟨d, .alloc 40, ty, pos, af, none⟩ :: rest) a w :=
  wpList_allocAs _ bo_zero fun c hc => by rw [hc]; exact h
theorem bo_new {c : Array Value} (x : Bd) (N : Nat) (hx : a.eval p = .pointer (some ⟨N, 0, none⟩)) (hN : w.heap.size = N) (hy : a.eval q = .agg (boCells x).toArray) (hc : Hid (c.size = 18))
    (h : wpList Tryd.prog ops Q rest (a.put d undef) (w.alloc (.cells (boCells x).toArray 40))) : wpList Tryd.prog ops Q (⟨d, .store 40 p q, ty, pos, af, none⟩ :: rest) a (w.alloc (.cells c 40)) :=
  wpList_storeNew hx hN hy bo_info (hc.out.trans (bo_size x).symm) (bo_one x) h
theorem bo_put (g : Nat) (x : Bd) (hx : a.eval p = .pointer (some ⟨g, 0, none⟩)) (hy : a.eval q = .agg (boCells x).toArray) {old : Array Value} {t' : TypeId} (hg : w.heap[g]? = some (.cells old t' (0, 0))) (hs : Hid (old.size = 18))
    (h : wpList Tryd.prog ops Q rest (a.put d undef) (w.setRow g (boCells x).toArray)) : wpList Tryd.prog ops Q (⟨d, .store 40 p q, ty, pos, af, none⟩ :: rest) a w :=
  wpList_storeOld g _ hx hy hg bo_info (hs.out.trans (bo_size x).symm) (bo_one x) h
end

end Go.Proofs.YthineckpociomaaDoor
