/-
  How memory stands while the parser's methods read; what they are asked for (package ruletext).
-/
import Derived.Test.YtkalkglllgebkaaDoorRxA
namespace Go.Proofs.YtkalkglllgebkaaDoor
open Go.RowKit Saw

def exArr (x : Ex) (sv : Value) : Array Value := #[.int .i64 x.op, .int .i64 x.n, .string (str x.name), sv]
/-- What reading an expression leaves: the expression in new blocks and the parser behind it, or a fault. -/
def RdPost (w : World) (rb : Nat) (lv : Value) (r : RR) (e : Ending) (w' : World) : Prop :=
  w.grownBy w' (some rb) ∧ match r with
  | .ok x k => ∃ A c, e = .returned (.agg #[.int .i64 x.op, .int .i64 x.n, .string (str x.name), .slice A x.kids.toList.length c]) ∧ RdFo w' (Iv w.heap.size w'.heap.size) (.slice A x.kids.toList.length c) x.kids ∧ IsRx w' rb lv k
  | .bad er off => e = Thrown er off
def fnOf : Lv → Option FuncId
  | .expr => some 62
  | .conj => some 88
  | .neg => some 103
  | .comp => some 113
  | .sum => some 121
  | .term => some 125
  | .fact => some 127
  | _ => none
/-- The methods do what rd says with so much fuel. -/
def RdCalls (xs : List Lx) (n : Nat) : Prop := ∀ (lvl : Lv) (f : FuncId), fnOf lvl = some f → ∀ (k : Nat) (r : RR), rd xs n lvl k = some r → k < xs.length →
  ∀ (w : World) (rb : Nat) (lv : Value), IsRx w rb lv k → RdXs w rb lv xs → Calls Tryd.prog f #[.pointer (some ⟨rb, 0, none⟩)] w (RdPost w rb lv r)

theorem RdXs.gb {w w' : World} {rb : Nat} {lv : Value} {xs : List Lx} (h : RdXs w rb lv xs) (hg : w.grownBy w' (some rb)) (hs : rb < w.heap.size) : RdXs w' rb lv xs := Rd.gb h hg (Nat.le_refl _) (by omega)
def rxPos (rb : Nat) (w : World) : Nat := match w.cell? ⟨rb, 1, none⟩ with | some (.int _ n) => n.toNat | _ => 0
theorem rxPos_of {w : World} {rb k : Nat} {lv : Value} (h : IsRx w rb lv k) : rxPos rb w = k := by
  unfold rxPos
  simp only [h.cells.2.1]
  rw [Int.toNat_natCast]

/-- How memory stands in a loop: the parser, the block of the result, the block g of the expression that was read so far. -/
def ESt (w W : World) (rb : Nat) (lv : Value) (k g : Nat) (x : Ex) (sv : Value) : Prop :=
  IsRx W rb lv k ∧ w.grownBy W (some rb) ∧ rb < w.heap.size ∧ (∃ cs : Array Value, cs.size = 4 ∧ W.heap[w.heap.size]? = some (.cells cs 24 (0, 0))) ∧
    W.heap[g]? = some (.cells (exArr x sv) 24 (0, 0)) ∧ RdFo W (fun b => Iv (w.heap.size + 1) W.heap.size b ∧ b ≠ g) sv x.kids ∧ w.heap.size < g ∧ g < W.heap.size
section
variable {w W W' : World} {rb k k' g : Nat} {lv sv : Value} {x : Ex}
theorem ESt.call (h : ESt w W rb lv k g x sv) (hr : IsRx W' rb lv k') (hg : W.grownBy W' (some rb)) : ESt w W' rb lv k' g x sv := by
  obtain ⟨h1, h2, h3, ⟨cs, h4, h5⟩, h6, h7, h8, h9⟩ := h
  have hs := hg.size
  refine ⟨hr, gb_trans h2 hg, h3, ⟨cs, h4, (hg.block _ (by omega) (fun e => by injection e; omega)).trans h5⟩, (hg.block _ h9 (fun e => by injection e; omega)).trans h6, ?_, h8, by omega⟩
  exact (h7.gb hg fun b hb => ⟨by have := hb.1.1; omega, hb.1.2⟩).more fun b hb => ⟨⟨hb.1.1, by have := hb.1.2; omega⟩, hb.2⟩
theorem ESt.below (h : ESt w W rb lv k g x sv) (hb : Below W.heap.size W W') : ESt w W' rb lv k g x sv := h.call (h.1.below hb h.1.lt) (gb_belowS gb_refl hb)
theorem ESt.pos (h : ESt w W rb lv k g x sv) (k' : Nat) : ESt w (W.setCell ⟨rb, 1, none⟩ (.int .i64 k')) rb lv k' g x sv := h.call (h.1.set k') (gb_set gb_refl _)
theorem ESt.drew (h : ESt w W rb lv k g x sv) : ESt w W.drew rb lv k g x sv := ⟨h.1, gb_drew h.2.1, h.2.2.1, h.2.2.2.1, h.2.2.2.2.1, h.2.2.2.2.2.1.keep fun _ _ => rfl, h.2.2.2.2.2.2⟩
theorem ESt.rdx {xs : List Lx} (h : ESt w W rb lv k g x sv) (hl : RdXs w rb lv xs) : RdXs W rb lv xs := hl.gb h.2.1 h.2.2.1
theorem ESt.at_g (h : ESt w W rb lv k g x sv) : W.rangeAt g 0 (exCells x sv) := rangeAt_block h.2.2.2.2.1
theorem ESt.cell (h : ESt w W rb lv k g x sv) (j : Nat) (v : Value) (hv : (exArr x sv)[j]? = some v) : W.cell? ⟨g, j, none⟩ = some v := cell_of_box h.2.2.2.2.1 hv
theorem ESt.lt (h : ESt w W rb lv k g x sv) : rb < w.heap.size ∧ w.heap.size < g ∧ g < W.heap.size := ⟨h.2.2.1, h.2.2.2.2.2.2.1, h.2.2.2.2.2.2.2⟩
/-- Two arguments in a new slice, the node of both in the block g. -/
theorem ESt.two {W2 W4 : World} {y : Ex} {tv : Value} {op : Int} (h : ESt w W rb lv k g x sv) (hr : IsRx W2 rb lv k') (hg : W.grownBy W2 (some rb)) (hy : RdFo W2 (Iv W.heap.size W2.heap.size) tv y.kids) (t : TypeId)
    (h4 : Below (W2.alloc (.cells #[.int .i64 x.op, .int .i64 x.n, .string (str x.name), sv, .int .i64 y.op, .int .i64 y.n, .string (str y.name), tv] t)).heap.size (W2.alloc (.cells #[.int .i64 x.op, .int .i64 x.n, .string (str x.name), sv, .int .i64 y.op, .int .i64 y.n, .string (str y.name), tv] t)) W4) :
    ESt w (W4.setRow g (exArr (Saw.two op x y) (.slice (some ⟨W2.heap.size, 0, none⟩) 2 2))) rb lv k' g (Saw.two op x y) (.slice (some ⟨W2.heap.size, 0, none⟩) 2 2) := by
  obtain ⟨l1, l2, l3⟩ := h.lt
  have hs2 := hg.size
  have hs4 := h4.size
  rw [World.size_alloc] at hs4
  have e2 := h.call hr hg
  have e3 := e2.below ((Below.refl _ _).alloc (Nat.le_refl _) (.cells #[.int .i64 x.op, .int .i64 x.n, .string (str x.name), sv, .int .i64 y.op, .int .i64 y.n, .string (str y.name), tv] t))
  have e4 := e3.below h4
  obtain ⟨h1, h2', h3, ⟨cs, h5, h6⟩, h7, h8, h9, h10⟩ := e4
  obtain ⟨r1, r2⟩ := rangeAt_two W2 x y sv tv t
  have q1 := rangeAt_below h4 (show W2.heap.size < _ by rw [World.size_alloc]; omega) r1
  have q2 := rangeAt_below h4 (show W2.heap.size < _ by rw [World.size_alloc]; omega) r2
  have hy4 : RdFo W4 (Iv W.heap.size W2.heap.size) tv y.kids := (hy.alloc (fun b hb => hb.2) _).below h4 (fun b hb => by have := hb.2; rw [World.size_alloc]; omega)
  have hR : RdFo W4 (fun b => Iv (w.heap.size + 1) W4.heap.size b ∧ b ≠ g) (.slice (some ⟨W2.heap.size, 0, none⟩) 2 2) (Saw.two op x y).kids := by
    refine RdFo.two_ q1 q2 ⟨⟨by omega, by omega⟩, by omega⟩ h8 (hy4.more fun b hb => ?_) (by omega)
    have h_1 := hb.1
    have h_2 := hb.2
    exact ⟨⟨by omega, by omega⟩, by omega⟩
  refine ⟨h1.row (by omega) _, gb_setRow h2' (.inr (by omega)) _, h3, ⟨cs, h5, (setRow_other _ _ _ _ (by omega)).trans h6⟩, setRow_heap _ _ _ _ _ _ h7, ?_, by omega, by rw [show (W4.setRow g _).heap.size = W4.heap.size by simp]; omega⟩
  rw [show (W4.setRow g (exArr (Saw.two op x y) (.slice (some ⟨W2.heap.size, 0, none⟩) 2 2))).heap.size = W4.heap.size by simp]
  exact hR.setRow (fun b hb => hb.2) _
theorem set4_row {W : World} {g : Nat} {old : Array Value} {t : TypeId} (h : W.heap[g]? = some (.cells old t (0, 0))) (hs : old.size = 4) (a b c d : Value) :
    (((W.setCell ⟨g, 0, none⟩ a).setCell ⟨g, 1, none⟩ b).setCell ⟨g, 2, none⟩ c).setCell ⟨g, 3, none⟩ d = W.setRow g #[a, b, c, d] := by
  obtain ⟨l⟩ := old
  match l, hs with
  | [o0, o1, o2, o3], _ =>
    have h1 := setRow_heap W g _ #[a, o1, o2, o3] _ _ h
    have h2 := setRow_heap W g _ #[a, b, o2, o3] _ _ h
    have h3 := setRow_heap W g _ #[a, b, c, o3] _ _ h
    rw [setCell_eq_setRow W g 0 _ _ _ _ h]
    rw [show (#[o0, o1, o2, o3] : Array Value).setIfInBounds 0 a = #[a, o1, o2, o3] from rfl, setCell_eq_setRow _ g 1 _ _ _ _ h1, setRow_setRow]
    rw [show (#[a, o1, o2, o3] : Array Value).setIfInBounds 1 b = #[a, b, o2, o3] from rfl, setCell_eq_setRow _ g 2 _ _ _ _ h2, setRow_setRow]
    rw [show (#[a, b, o2, o3] : Array Value).setIfInBounds 2 c = #[a, b, c, o3] from rfl, setCell_eq_setRow _ g 3 _ _ _ _ h3, setRow_setRow]
    rfl
theorem ESt.frozen (h : ESt w W rb lv k g x sv) (j : Nat) : W.frozen? ⟨g, j, none⟩ = false := by
  have h1 := h.2.2.2.2.1
  simp [World.frozen?, h1]
theorem ESt.all (h : ESt w W rb lv k g x sv) : (W.cell? ⟨g, 0, none⟩ = some (.int .i64 x.op) ∧ W.cell? ⟨g, 1, none⟩ = some (.int .i64 x.n) ∧ W.cell? ⟨g, 2, none⟩ = some (.string (str x.name)) ∧ W.cell? ⟨g, 3, none⟩ = some sv) ∧ W.frozen? ⟨g, 0, none⟩ = false ∧ W.frozen? ⟨g, 1, none⟩ = false ∧ W.frozen? ⟨g, 2, none⟩ = false ∧ W.frozen? ⟨g, 3, none⟩ = false :=
  ⟨⟨h.cell 0 _ rfl, h.cell 1 _ rfl, h.cell 2 _ rfl, h.cell 3 _ rfl⟩, h.frozen 0, h.frozen 1, h.frozen 2, h.frozen 3⟩
/-- The expression's block copied into the result's: what the call leaves. -/
theorem ESt.leave (h : ESt w W rb lv k g x sv) : (W.setRow w.heap.size (exArr x sv)).heap[w.heap.size]? = some (.cells (exArr x sv) 24 (0, 0)) ∧ w.grownBy (W.setRow w.heap.size (exArr x sv)) (some rb) ∧ RdFo (W.setRow w.heap.size (exArr x sv)) (Iv w.heap.size (W.setRow w.heap.size (exArr x sv)).heap.size) sv x.kids ∧ IsRx (W.setRow w.heap.size (exArr x sv)) rb lv k := by
  obtain ⟨h1, h2, h3, ⟨cs, h4, h5⟩, h6, h7, h8, h9⟩ := h
  rw [show (W.setRow w.heap.size (exArr x sv)).heap.size = W.heap.size by simp]
  refine ⟨setRow_heap _ _ _ _ _ _ h5, gb_setRow h2 (.inr (Nat.le_refl _)) _, (h7.setRow (fun b hb => by have := hb.1.1; omega) _).more (fun b hb => ⟨by have := hb.1.1; omega, hb.1.2⟩), h1.row (by omega) _⟩
/-- The block of the first expression, made behind the call that read it. -/
theorem ESt.first_ {W1 : World} {z : Array Value} (hz : z.size = 4) (hr : IsRx W1 rb lv k) (hrb : rb < w.heap.size) (hg : (w.alloc (.cells z 24)).grownBy W1 (some rb)) (hx : RdFo W1 (Iv (w.alloc (.cells z 24)).heap.size W1.heap.size) sv x.kids) :
    ESt w (W1.alloc (.cells (exArr x sv) 24)) rb lv k W1.heap.size x sv := by
  have hs := hg.size
  rw [World.size_alloc] at hs hx
  refine ⟨hr.alloc _, gb_alloc (gb_trans (gb_alloc gb_refl _) hg) _, hrb, ⟨z, hz, hpA ((hg.block _ (by rw [World.size_alloc]; omega) (fun e => by injection e; omega)).trans (heap_alloc_last w _)) _⟩, heap_alloc_last W1 _, ?_, by omega, by rw [World.size_alloc]; omega⟩
  exact (hx.alloc (fun b hb => hb.2) _).more fun b hb => ⟨⟨hb.1, by have := hb.2; rw [World.size_alloc]; omega⟩, by have := hb.2; omega⟩
end

/-- How memory stands where only the result has a block: the parser, and that block. -/
def NSt (w W : World) (rb : Nat) (lv : Value) (k : Nat) : Prop :=
  IsRx W rb lv k ∧ w.grownBy W (some rb) ∧ rb < w.heap.size ∧ w.heap.size < W.heap.size ∧ ∃ cs : Array Value, cs.size = 4 ∧ W.heap[w.heap.size]? = some (.cells cs 24 (0, 0))
section
variable {w W W' : World} {rb k k' g : Nat} {lv sv : Value} {x : Ex}
theorem NSt.first_ {z : Array Value} (hz : z.size = 4) (hr : IsRx w rb lv k) : NSt w (w.alloc (.cells z 24)) rb lv k :=
  ⟨hr.alloc _, gb_alloc gb_refl _, hr.lt, by rw [World.size_alloc]; omega, z, hz, heap_alloc_last w _⟩
theorem NSt.call (h : NSt w W rb lv k) (hr : IsRx W' rb lv k') (hg : W.grownBy W' (some rb)) : NSt w W' rb lv k' := by
  obtain ⟨h1, h2, h3, h4, cs, h5, h6⟩ := h
  have hs := hg.size
  exact ⟨hr, gb_trans h2 hg, h3, by omega, cs, h5, (hg.block _ h4 (fun e => by injection e; omega)).trans h6⟩
theorem NSt.below (h : NSt w W rb lv k) (hb : Below W.heap.size W W') : NSt w W' rb lv k := h.call (h.1.below hb h.1.lt) (gb_belowS gb_refl hb)
theorem NSt.pos (h : NSt w W rb lv k) (k' : Nat) : NSt w (W.setCell ⟨rb, 1, none⟩ (.int .i64 k')) rb lv k' := h.call (h.1.set k') (gb_set gb_refl _)
theorem NSt.alloc (h : NSt w W rb lv k) (o : Obj) : NSt w (W.alloc o) rb lv k := h.below ((Below.refl _ _).alloc (Nat.le_refl _) o)
theorem NSt.rdx {xs : List Lx} (h : NSt w W rb lv k) (hl : RdXs w rb lv xs) : RdXs W rb lv xs := hl.gb h.2.1 h.2.2.1
theorem NSt.leave (h : NSt w W rb lv k) {S : Nat → Prop} (hx : RdFo W S sv x.kids) (hS : ∀ b, S b → w.heap.size < b ∧ b < W.heap.size) : (W.setRow w.heap.size (exArr x sv)).heap[w.heap.size]? = some (.cells (exArr x sv) 24 (0, 0)) ∧ w.grownBy (W.setRow w.heap.size (exArr x sv)) (some rb) ∧ RdFo (W.setRow w.heap.size (exArr x sv)) (Iv w.heap.size (W.setRow w.heap.size (exArr x sv)).heap.size) sv x.kids ∧ IsRx (W.setRow w.heap.size (exArr x sv)) rb lv k := by
  obtain ⟨h1, h2, h3, h4, cs, h5, h6⟩ := h
  rw [show (W.setRow w.heap.size (exArr x sv)).heap.size = W.heap.size by simp]
  refine ⟨setRow_heap _ _ _ _ _ _ h6, gb_setRow h2 (.inr (Nat.le_refl _)) _, (hx.setRow (fun b hb => by have := hS b hb; omega) _).more (fun b hb => ⟨by have := hS b hb; omega, (hS b hb).2⟩), h1.row (by omega) _⟩
/-- The slice of the one argument, behind the call of node. -/
theorem one_slice {W4 : World} {y : Ex} {lo : Nat} (hy : RdFo W (Iv lo W.heap.size) sv y.kids) (hlo : lo ≤ W.heap.size) (t : TypeId)
    (h4 : Below (W.alloc (.cells #[.int .i64 y.op, .int .i64 y.n, .string (str y.name), sv] t)).heap.size (W.alloc (.cells #[.int .i64 y.op, .int .i64 y.n, .string (str y.name), sv] t)) W4) (op : Int) :
    RdFo W4 (Iv lo W4.heap.size) (.slice (some ⟨W.heap.size, 0, none⟩) 1 1) (Saw.one op y).kids := by
  have hs4 := h4.size
  rw [World.size_alloc] at hs4
  have q1 := rangeAt_below h4 (show W.heap.size < _ by rw [World.size_alloc]; omega) (rangeAt_one W y sv t)
  have hy4 : RdFo W4 (Iv lo W.heap.size) sv y.kids := (hy.alloc (fun b hb => hb.2) _).below h4 (fun b hb => by have := hb.2; rw [World.size_alloc]; omega)
  exact RdFo.one_ q1 ⟨hlo, by omega⟩ (hy4.more fun b hb => ⟨hb.1, by have := hb.2; omega⟩) (by omega)
/-- The slice of two arguments, behind the call of node. -/
theorem two_slice {W4 : World} {x y : Ex} {tv : Value} {lo : Nat} (hx : RdFo W (Iv lo W.heap.size) sv x.kids) (hy : RdFo W (Iv lo W.heap.size) tv y.kids) (hlo : lo ≤ W.heap.size) (t : TypeId)
    (h4 : Below (W.alloc (.cells #[.int .i64 x.op, .int .i64 x.n, .string (str x.name), sv, .int .i64 y.op, .int .i64 y.n, .string (str y.name), tv] t)).heap.size (W.alloc (.cells #[.int .i64 x.op, .int .i64 x.n, .string (str x.name), sv, .int .i64 y.op, .int .i64 y.n, .string (str y.name), tv] t)) W4) (op : Int) :
    RdFo W4 (Iv lo W4.heap.size) (.slice (some ⟨W.heap.size, 0, none⟩) 2 2) (Saw.two op x y).kids := by
  have hs4 := h4.size
  rw [World.size_alloc] at hs4
  obtain ⟨r1, r2⟩ := rangeAt_two W x y sv tv t
  have q1 := rangeAt_below h4 (show W.heap.size < _ by rw [World.size_alloc]; omega) r1
  have q2 := rangeAt_below h4 (show W.heap.size < _ by rw [World.size_alloc]; omega) r2
  have hx4 : RdFo W4 (Iv lo W.heap.size) sv x.kids := (hx.alloc (fun b hb => hb.2) _).below h4 (fun b hb => by have := hb.2; rw [World.size_alloc]; omega)
  have hy4 : RdFo W4 (Iv lo W.heap.size) tv y.kids := (hy.alloc (fun b hb => hb.2) _).below h4 (fun b hb => by have := hb.2; rw [World.size_alloc]; omega)
  exact RdFo.two_ q1 q2 ⟨hlo, by omega⟩ (hx4.more fun b hb => ⟨hb.1, by have := hb.2; omega⟩) (hy4.more fun b hb => ⟨hb.1, by have := hb.2; omega⟩) (by omega)
end

/-- What the lexemes are known to meet. -/
def XsOk (xs : List Lx) : Prop := LxEnds xs ∧ xs.length < 1000000 ∧ (∀ x ∈ xs, 0 ≤ x.num ∧ x.num ≤ 1099511627776) ∧ ∀ x ∈ xs, x.text.length ≤ 1000000
theorem XsOk.num {xs : List Lx} (h : XsOk xs) {k : Nat} (hk : k < xs.length) : 0 ≤ (lxAt xs k).num ∧ (lxAt xs k).num ≤ 1099511627776 := h.2.2.1 _ (List.mem_of_getElem? (lxAt_some hk))
theorem XsOk.text {xs : List Lx} (h : XsOk xs) {k : Nat} (hk : k < xs.length) : (lxAt xs k).text.length ≤ 1000000 := h.2.2.2 _ (List.mem_of_getElem? (lxAt_some hk))
/-- How memory stands where a lexeme lies in a block g, too. -/
def LSt (w W : World) (rb : Nat) (lv : Value) (k g : Nat) (y : Lx) : Prop :=
  NSt w W rb lv k ∧ W.heap[g]? = some (.cells #[.int .i64 y.kind, .string (str y.text), .int .i64 y.num, .int .i64 y.off] 49 (0, 0)) ∧ w.heap.size < g ∧ g < W.heap.size
section
variable {w W W' W1 : World} {rb k k' g : Nat} {lv sv : Value} {x : Ex} {y : Lx}
theorem LSt.first_ (h : NSt w W rb lv k) : LSt w (W.alloc (.cells #[.int .i64 y.kind, .string (str y.text), .int .i64 y.num, .int .i64 y.off] 49)) rb lv k W.heap.size y :=
  ⟨h.alloc _, heap_alloc_last W _, h.2.2.2.1, by rw [World.size_alloc]; omega⟩
theorem LSt.call (h : LSt w W rb lv k g y) (hr : IsRx W' rb lv k') (hg : W.grownBy W' (some rb)) : LSt w W' rb lv k' g y := by
  obtain ⟨h1, h2, h3, h4⟩ := h
  have hs := hg.size
  have hrb := h1.2.2.1
  exact ⟨h1.call hr hg, (hg.block _ h4 (fun e => by injection e; omega)).trans h2, h3, by omega⟩
theorem LSt.below (h : LSt w W rb lv k g y) (hb : Below W.heap.size W W') : LSt w W' rb lv k g y := h.call (h.1.1.below hb h.1.1.lt) (gb_belowS gb_refl hb)
theorem LSt.pos (h : LSt w W rb lv k g y) (k' : Nat) : LSt w (W.setCell ⟨rb, 1, none⟩ (.int .i64 k')) rb lv k' g y := h.call (h.1.1.set k') (gb_set gb_refl _)
theorem LSt.cells (h : LSt w W rb lv k g y) : W.cell? ⟨g, 0, none⟩ = some (.int .i64 y.kind) ∧ W.cell? ⟨g, 1, none⟩ = some (.string (str y.text)) ∧ W.cell? ⟨g, 2, none⟩ = some (.int .i64 y.num) ∧ W.cell? ⟨g, 3, none⟩ = some (.int .i64 y.off) ∧ g < W.heap.size :=
  ⟨cell_of_box h.2.1 rfl, cell_of_box h.2.1 rfl, cell_of_box h.2.1 rfl, cell_of_box h.2.1 rfl, h.2.2.2⟩
/-- The block of an expression, made behind the call that read it. -/
theorem ESt.later_ (h : NSt w W rb lv k) (hr : IsRx W1 rb lv k') (hg : W.grownBy W1 (some rb)) (hx : RdFo W1 (Iv W.heap.size W1.heap.size) sv x.kids) : ESt w (W1.alloc (.cells (exArr x sv) 24)) rb lv k' W1.heap.size x sv := by
  have hs := hg.size
  obtain ⟨h1, h2, h3, h4, cs, h5, h6⟩ := h.call hr hg
  have h7 := h.2.2.2.1
  refine ⟨hr.alloc _, gb_alloc h2 _, h3, ⟨cs, h5, hpA h6 _⟩, heap_alloc_last W1 _, ?_, h4, by rw [World.size_alloc]; omega⟩
  exact (hx.alloc (fun b hb => hb.2) _).more fun b hb => ⟨⟨by have := hb.1; omega, by have := hb.2; rw [World.size_alloc]; omega⟩, by have := hb.2; omega⟩
theorem ESt.toN (h : ESt w W rb lv k g x sv) : NSt w W rb lv k := ⟨h.1, h.2.1, h.2.2.1, by have := h.lt; omega, h.2.2.2.1⟩
end

end Go.Proofs.YtkalkglllgebkaaDoor
