/-
  Plain: what the reference's reader is asked for (an error is kept, nothing more is read); how memory stands while it reads (sawmillref44).
  The small methods of the reference's reader (sawmillref44): fail, is, take; two.
  The methods expr, conj, term of the reference's reader read what rd says, or keep an error (sawmillref44).
  The method sum of the reference's reader reads what rd says, or keeps an error (sawmillref44).
  The methods neg and comparison of the reference's reader read what rd says, or keep an error (sawmillref44).
  The method factor of the reference's reader reads what rd says, or keeps an error (sawmillref44).
  The reference's reader reads what rd says; whole; the contract of the reference's ParseExpr (sawmillref44).
  The contract of the reference's ParseExpr (sawmillref44).
-/
import Derived.Test.YtkalkglllgebkaaDoorRxB
import Derived.Test.YtkalkglllgebkaaDoorRzD
import Derived.Test.YtkalkglllgebkaaDoorRxW
import Derived.Test.YtkalkglllgebkaaDoorRefC
namespace Saw
/-- A name or a mark with this text. -/
def isAn (xs : List Lx) (k : Nat) (t : List UInt8) : Bool := ((lxAt xs k).kind == 1 || (lxAt xs k).kind == 3) && (lxAt xs k).text == t
theorem read_kind {x : Lx} (h : lexOK x) : (readP x.text 0).1.kind = x.kind := by rw [h.2 0]
theorem an_word {xs : List Lx} (hc : CanonP xs) (k : Nat) {t : List UInt8} (ht : (readP t 0).1.kind = 1) : isAn xs k t = isWd xs k t := by
  unfold isAn isWd lxIs
  cases he : ((lxAt xs k).text == t) with
  | false => simp
  | true =>
    have h3 : ((lxAt xs k).kind == 3) = false := by
      rw [beq_eq_false_iff_ne]
      intro h3
      have h4 := read_kind (hc.at_ (k := k) (by rw [h3]; decide))
      rw [eq_of_beq he, ht, h3] at h4
      exact absurd h4 (by decide)
    rw [h3, Bool.or_false]
theorem an_mark {xs : List Lx} (hc : CanonP xs) (k : Nat) {t : List UInt8} (ht : (readP t 0).1.kind = 3) : isAn xs k t = isMk xs k t := by
  unfold isAn isMk lxIs
  cases he : ((lxAt xs k).text == t) with
  | false => simp
  | true =>
    have h3 : ((lxAt xs k).kind == 1) = false := by
      rw [beq_eq_false_iff_ne]
      intro h3
      have h4 := read_kind (hc.at_ (k := k) (by rw [h3]; decide))
      rw [eq_of_beq he, ht, h3] at h4
      exact absurd h4 (by decide)
    rw [h3, Bool.false_or]
/-- The state of the reader: its place, its first error and the error's offset. -/
structure Rs where
  k : Nat
  er : Int
  off : Int
/-- What was read, as the reader shows it. -/
def RfRel (r : RR) (y : Ex) (s : Rs) : Prop :=
  match r with
  | .ok x k => y = x ∧ s = ⟨k, 0, 0⟩
  | .bad er off => er ≠ 0 ∧ s.er = er ∧ s.off = off
/-- A loop that read x so far. -/
def LpRel (xs : List Lx) (n : Nat) (L : Ex → Lv) (r : RR) (x : Ex) (s : Rs) : Prop :=
  (s.er = 0 ∧ s.off = 0 ∧ ∃ m, m ≤ n ∧ rd xs m (L x) s.k = some r) ∨ (s.er ≠ 0 ∧ r = .bad s.er s.off)
theorem rf_start {xs : List Lx} {n k : Nat} {C : Lv} {L : Ex → Lv} {r : RR} (h : andThen (rd xs n C k) (fun e k' => rd xs n (L e) k') = some r) : ∃ r1, rd xs n C k = some r1 ∧ ∀ y s, RfRel r1 y s → LpRel xs n L r y s := by
  rcases andThen_some h with ⟨er, off, h1, rfl⟩ | ⟨e1, k1, h1, h2⟩
  · refine ⟨_, h1, fun y s hs => .inr ?_⟩
    obtain ⟨a, rfl, rfl⟩ := hs
    exact ⟨a, rfl⟩
  · refine ⟨_, h1, fun y s hs => .inl ?_⟩
    obtain ⟨rfl, rfl⟩ := hs
    exact ⟨rfl, rfl, n, Nat.le_refl _, h2⟩
/-- A loop whose one test T fails, or that has an error, ends. -/
theorem lp_end {xs : List Lx} {n : Nat} {L : Ex → Lv} {T : Nat → Bool} {C : Lv} {op : Int} {r : RR} {x : Ex} {s : Rs} (hL : ∀ m x k, rd xs (m + 1) (L x) k = if T k = true then andThen (rd xs m C (k + 1)) (fun e' k' => rd xs m (L (two op x e')) k') else some (.ok x k))
    (h : LpRel xs n L r x s) (ht : (decide (s.er = 0) && T s.k) = false) : RfRel r x s := by
  obtain ⟨k, er, off⟩ := s
  rcases h with ⟨h1, h2, m, _, h3⟩ | ⟨h1, rfl⟩
  · simp only at h1 h2 h3 ht
    subst h1 h2
    cases m with
    | zero => rw [rd] at h3; cases h3
    | succ m =>
      rw [hL, if_neg (by simpa using ht)] at h3
      injection h3 with h3
      subst h3
      exact ⟨rfl, rfl⟩
  · exact ⟨h1, rfl, rfl⟩
theorem lp_more {xs : List Lx} (he : LxEnds xs) {n : Nat} {L : Ex → Lv} {T : Nat → Bool} {C : Lv} (hC : C.step = 1) {op : Int} {r : RR} {x : Ex} {s : Rs} (hL : ∀ m x k, rd xs (m + 1) (L x) k = if T k = true then andThen (rd xs m C (k + 1)) (fun e' k' => rd xs m (L (two op x e')) k') else some (.ok x k))
    (h : LpRel xs n L r x s) (ht : (decide (s.er = 0) && T s.k) = true) (hk : s.k + 1 < xs.length) : s.er = 0 ∧ s.off = 0 ∧ ∃ m r1, m ≤ n ∧ rd xs m C (s.k + 1) = some r1 ∧ ∀ y s', RfRel r1 y s' → LpRel xs n L r (two op x y) s' ∧ (s'.er = 0 → s.k < s'.k) := by
  obtain ⟨k, er, off⟩ := s
  rw [Bool.and_eq_true, decide_eq_true_eq] at ht
  rcases h with ⟨h1, h2, m, hm, h3⟩ | ⟨h1, _⟩
  · simp only at h1 h2 h3 ht hk ⊢
    refine ⟨h1, h2, ?_⟩
    cases m with
    | zero => rw [rd] at h3; cases h3
    | succ m =>
      rw [hL, if_pos ht.2] at h3
      rcases andThen_some h3 with ⟨er, off, h4, rfl⟩ | ⟨e1, k1, h4, h5⟩
      · refine ⟨m, _, by omega, h4, fun y s' hs => ?_⟩
        obtain ⟨a, rfl, rfl⟩ := hs
        exact ⟨.inr ⟨a, rfl⟩, fun h => absurd h a⟩
      · refine ⟨m, _, by omega, h4, fun y s' hs => ?_⟩
        obtain ⟨rfl, rfl⟩ := hs
        have h6 := rd_in he _ _ _ _ _ hk h4
        rw [hC] at h6
        exact ⟨.inl ⟨rfl, rfl, m, by omega, h5⟩, fun _ => by show k < k1; omega⟩
  · exact absurd ht.1 h1
end Saw
namespace Go.Proofs.YtkalkglllgebkaaDoor
open Go.RowKit Saw

/-- The reader's block: its lexemes, its place, its first error with the offset. -/
def IsRf (w : World) (rb : Nat) (lv : Value) (s : Rs) : Prop := w.heap[rb]? = some (.cells #[lv, .int .i64 s.k, .int .i64 s.er, .int .i64 s.off] 71 (0, 0))
section
variable {w w' : World} {rb B g : Nat} {lv : Value} {s : Rs}
theorem IsRf.cells (h : IsRf w rb lv s) : w.cell? ⟨rb, 0, none⟩ = some lv ∧ w.cell? ⟨rb, 1, none⟩ = some (.int .i64 s.k) ∧ w.cell? ⟨rb, 2, none⟩ = some (.int .i64 s.er) ∧ w.cell? ⟨rb, 3, none⟩ = some (.int .i64 s.off) ∧ w.frozen? ⟨rb, 1, none⟩ = false ∧ w.frozen? ⟨rb, 2, none⟩ = false ∧ w.frozen? ⟨rb, 3, none⟩ = false ∧ rb < w.heap.size := by
  refine ⟨cell_of_box h rfl, cell_of_box h rfl, cell_of_box h rfl, cell_of_box h rfl, ?_, ?_, ?_, (Array.getElem?_eq_some_iff.1 h).1⟩ <;> simp [World.frozen?, show w.heap[rb]? = _ from h]
theorem IsRf.set (h : IsRf w rb lv s) (k' : Nat) : IsRf (w.setCell ⟨rb, 1, none⟩ (.int .i64 k')) rb lv ⟨k', s.er, s.off⟩ := by
  unfold IsRf
  rw [setCell_eq_setRow w rb 1 _ _ _ _ h, setRow_heap _ _ _ _ _ _ h]
  rfl
theorem IsRf.err (h : IsRf w rb lv s) (er off : Int) : IsRf ((w.setCell ⟨rb, 2, none⟩ (.int .i64 er)).setCell ⟨rb, 3, none⟩ (.int .i64 off)) rb lv ⟨s.k, er, off⟩ := by
  unfold IsRf
  have h1 := setRow_heap w rb _ #[lv, .int .i64 s.k, .int .i64 er, .int .i64 s.off] _ _ h
  rw [setCell_eq_setRow w rb 2 _ _ _ _ h]
  rw [show (#[lv, .int .i64 s.k, .int .i64 s.er, .int .i64 s.off] : Array Value).setIfInBounds 2 (.int .i64 er) = #[lv, .int .i64 s.k, .int .i64 er, .int .i64 s.off] from rfl]
  rw [setCell_eq_setRow _ rb 3 _ _ _ _ h1, setRow_heap _ _ _ _ _ _ h1]
  rfl
theorem IsRf.alloc (h : IsRf w rb lv s) (o : Obj) : IsRf (w.alloc o) rb lv s := hpA h o
theorem IsRf.below (h : IsRf w rb lv s) (hb : Below B w w') (hB : rb < B) : IsRf w' rb lv s := (hb.block rb hB).trans h
theorem IsRf.row (h : IsRf w rb lv s) (hne : rb ≠ g) (cs : Array Value) : IsRf (w.setRow g cs) rb lv s := (setRow_other _ _ _ _ hne).trans h
theorem IsRf.setO (h : IsRf w rb lv s) {i : Nat} (hne : rb ≠ g) (v : Value) : IsRf (w.setCell ⟨g, i, none⟩ v) rb lv s := (Below.heap_setCell _ _ _ _ hne).trans h
theorem IsRf.lt (h : IsRf w rb lv s) : rb < w.heap.size := (Array.getElem?_eq_some_iff.1 h).1
end
/-- What reading an expression leaves: some expression in new blocks, the reader behind it or with an error. -/
def RfPost (w : World) (rb : Nat) (lv : Value) (xs : List Lx) (r : RR) (e : Ending) (w' : World) : Prop :=
  w.grownBy w' (some rb) ∧ ∃ (y : Ex) (A : Option Addr) (c : Nat) (s : Rs), e = .returned (.agg #[.int .i64 y.op, .int .i64 y.n, .string (str y.name), .slice A y.kids.toList.length c]) ∧ RdFo w' (Iv w.heap.size w'.heap.size) (.slice A y.kids.toList.length c) y.kids ∧ IsRf w' rb lv s ∧ s.k < xs.length ∧ RfRel r y s
def fnRf : Lv → Option FuncId
  | .expr => some 69
  | .conj => some 91
  | .neg => some 104
  | .comp => some 114
  | .sum => some 122
  | .term => some 126
  | .fact => some 128
  | _ => none
/-- The methods do what rd says with so much fuel. -/
def RfCalls (xs : List Lx) (n : Nat) : Prop := ∀ (lvl : Lv) (f : FuncId), fnRf lvl = some f → ∀ (k : Nat) (r : RR), rd xs n lvl k = some r → k < xs.length →
  ∀ (w : World) (rb : Nat) (lv : Value), IsRf w rb lv ⟨k, 0, 0⟩ → RdXs w rb lv xs → Calls Tryd.prog f #[.pointer (some ⟨rb, 0, none⟩)] w (RfPost w rb lv xs r)
/-- How far a loop still has to go. -/
def rfLeft (rb len : Nat) (w : World) : Nat := match w.cell? ⟨rb, 1, none⟩, w.cell? ⟨rb, 2, none⟩ with | some (.int _ n), some (.int _ e) => if e = 0 then len - n.toNat else 0 | _, _ => 0
theorem rfLeft_of {w : World} {rb len : Nat} {lv : Value} {s : Rs} (h : IsRf w rb lv s) : rfLeft rb len w = if s.er = 0 then len - s.k else 0 := by
  unfold rfLeft
  simp only [h.cells.2.1, h.cells.2.2.1]
  rw [Int.toNat_natCast]
/-- What the lexemes are known to meet, with how they are spelt. -/
def XrOk (xs : List Lx) : Prop := XsOk xs ∧ CanonP xs
/-- How memory stands in a loop: the parser, the block of the result, the block g of the expression that was read so far. -/
def EfSt (w W : World) (rb : Nat) (lv : Value) (s : Rs) (g : Nat) (x : Ex) (sv : Value) : Prop :=
  IsRf W rb lv s ∧ w.grownBy W (some rb) ∧ rb < w.heap.size ∧ (∃ cs : Array Value, cs.size = 4 ∧ W.heap[w.heap.size]? = some (.cells cs 24 (0, 0))) ∧
    W.heap[g]? = some (.cells (exArr x sv) 24 (0, 0)) ∧ RdFo W (fun b => Iv (w.heap.size + 1) W.heap.size b ∧ b ≠ g) sv x.kids ∧ w.heap.size < g ∧ g < W.heap.size
section
variable {w W W' : World} {rb g : Nat} {s s' : Rs} {lv sv : Value} {x : Ex}
theorem EfSt.call (h : EfSt w W rb lv s g x sv) (hr : IsRf W' rb lv s') (hg : W.grownBy W' (some rb)) : EfSt w W' rb lv s' g x sv := by
  obtain ⟨h1, h2, h3, ⟨cs, h4, h5⟩, h6, h7, h8, h9⟩ := h
  have hs := hg.size
  refine ⟨hr, gb_trans h2 hg, h3, ⟨cs, h4, (hg.block _ (by omega) (fun e => by injection e; omega)).trans h5⟩, (hg.block _ h9 (fun e => by injection e; omega)).trans h6, ?_, h8, by omega⟩
  exact (h7.gb hg fun b hb => ⟨by have := hb.1.1; omega, hb.1.2⟩).more fun b hb => ⟨⟨hb.1.1, by have := hb.1.2; omega⟩, hb.2⟩
theorem EfSt.below (h : EfSt w W rb lv s g x sv) (hb : Below W.heap.size W W') : EfSt w W' rb lv s g x sv := h.call (h.1.below hb h.1.lt) (gb_belowS gb_refl hb)
theorem EfSt.pos (h : EfSt w W rb lv s g x sv) (k' : Nat) : EfSt w (W.setCell ⟨rb, 1, none⟩ (.int .i64 k')) rb lv ⟨k', s.er, s.off⟩ g x sv := h.call (h.1.set k') (gb_set gb_refl _)
theorem EfSt.drew (h : EfSt w W rb lv s g x sv) : EfSt w W.drew rb lv s g x sv := ⟨h.1, gb_drew h.2.1, h.2.2.1, h.2.2.2.1, h.2.2.2.2.1, h.2.2.2.2.2.1.keep fun _ _ => rfl, h.2.2.2.2.2.2⟩
theorem EfSt.rdx {xs : List Lx} (h : EfSt w W rb lv s g x sv) (hl : RdXs w rb lv xs) : RdXs W rb lv xs := hl.gb h.2.1 h.2.2.1
theorem EfSt.at_g (h : EfSt w W rb lv s g x sv) : W.rangeAt g 0 (exCells x sv) := rangeAt_block h.2.2.2.2.1
theorem EfSt.cell (h : EfSt w W rb lv s g x sv) (j : Nat) (v : Value) (hv : (exArr x sv)[j]? = some v) : W.cell? ⟨g, j, none⟩ = some v := cell_of_box h.2.2.2.2.1 hv
theorem EfSt.lt (h : EfSt w W rb lv s g x sv) : rb < w.heap.size ∧ w.heap.size < g ∧ g < W.heap.size := ⟨h.2.2.1, h.2.2.2.2.2.2.1, h.2.2.2.2.2.2.2⟩
/-- The node of both arguments, which lie in a new slice, in the block g. -/
theorem EfSt.two {W2 W4 : World} {y : Ex} {tv : Value} {op : Int} {g2 : Nat} (h : EfSt w W rb lv s g x sv) (hr : IsRf W2 rb lv s') (hg : W.grownBy W2 (some rb)) (hy : RdFo W2 (Iv W.heap.size W2.heap.size) tv y.kids)
    (h4 : Below W2.heap.size W2 W4) (hg2 : W2.heap.size ≤ g2 ∧ g2 < W4.heap.size) (q1 : W4.rangeAt g2 0 (exCells x sv)) (q2 : W4.rangeAt g2 4 (exCells y tv)) :
    EfSt w (W4.setRow g (exArr (Saw.two op x y) (.slice (some ⟨g2, 0, none⟩) 2 2))) rb lv s' g (Saw.two op x y) (.slice (some ⟨g2, 0, none⟩) 2 2) := by
  obtain ⟨l1, l2, l3⟩ := h.lt
  have hs2 := hg.size
  have hs4 := h4.size
  have e2 := h.call hr hg
  have e4 := e2.below h4
  obtain ⟨h1, h2', h3, ⟨cs, h5, h6⟩, h7, h8, h9, h10⟩ := e4
  have hy4 : RdFo W4 (Iv W.heap.size W2.heap.size) tv y.kids := hy.below h4 (fun b hb => hb.2)
  have hR : RdFo W4 (fun b => Iv (w.heap.size + 1) W4.heap.size b ∧ b ≠ g) (.slice (some ⟨g2, 0, none⟩) 2 2) (Saw.two op x y).kids := by
    refine RdFo.two_ q1 q2 ⟨⟨by omega, by omega⟩, by omega⟩ h8 (hy4.more fun b hb => ?_) (by omega)
    have h_1 := hb.1
    have h_2 := hb.2
    exact ⟨⟨by omega, by omega⟩, by omega⟩
  refine ⟨h1.row (by omega) _, gb_setRow h2' (.inr (by omega)) _, h3, ⟨cs, h5, (setRow_other _ _ _ _ (by omega)).trans h6⟩, setRow_heap _ _ _ _ _ _ h7, ?_, by omega, by rw [show (W4.setRow g _).heap.size = W4.heap.size by simp]; omega⟩
  rw [show (W4.setRow g (exArr (Saw.two op x y) (.slice (some ⟨g2, 0, none⟩) 2 2))).heap.size = W4.heap.size by simp]
  exact hR.setRow (fun b hb => hb.2) _
theorem EfSt.frozen (h : EfSt w W rb lv s g x sv) (j : Nat) : W.frozen? ⟨g, j, none⟩ = false := by
  have h1 := h.2.2.2.2.1
  simp [World.frozen?, h1]
theorem EfSt.all (h : EfSt w W rb lv s g x sv) : (W.cell? ⟨g, 0, none⟩ = some (.int .i64 x.op) ∧ W.cell? ⟨g, 1, none⟩ = some (.int .i64 x.n) ∧ W.cell? ⟨g, 2, none⟩ = some (.string (str x.name)) ∧ W.cell? ⟨g, 3, none⟩ = some sv) ∧ W.frozen? ⟨g, 0, none⟩ = false ∧ W.frozen? ⟨g, 1, none⟩ = false ∧ W.frozen? ⟨g, 2, none⟩ = false ∧ W.frozen? ⟨g, 3, none⟩ = false :=
  ⟨⟨h.cell 0 _ rfl, h.cell 1 _ rfl, h.cell 2 _ rfl, h.cell 3 _ rfl⟩, h.frozen 0, h.frozen 1, h.frozen 2, h.frozen 3⟩
/-- The expression's block copied into the result's: what the call leaves. -/
theorem EfSt.leave (h : EfSt w W rb lv s g x sv) : (W.setRow w.heap.size (exArr x sv)).heap[w.heap.size]? = some (.cells (exArr x sv) 24 (0, 0)) ∧ w.grownBy (W.setRow w.heap.size (exArr x sv)) (some rb) ∧ RdFo (W.setRow w.heap.size (exArr x sv)) (Iv w.heap.size (W.setRow w.heap.size (exArr x sv)).heap.size) sv x.kids ∧ IsRf (W.setRow w.heap.size (exArr x sv)) rb lv s := by
  obtain ⟨h1, h2, h3, ⟨cs, h4, h5⟩, h6, h7, h8, h9⟩ := h
  rw [show (W.setRow w.heap.size (exArr x sv)).heap.size = W.heap.size by simp]
  refine ⟨setRow_heap _ _ _ _ _ _ h5, gb_setRow h2 (.inr (Nat.le_refl _)) _, (h7.setRow (fun b hb => by have := hb.1.1; omega) _).more (fun b hb => ⟨by have := hb.1.1; omega, hb.1.2⟩), h1.row (by omega) _⟩
/-- The block of the first expression, made behind the call that read it. -/
theorem EfSt.first_ {W1 : World} {z : Array Value} (hz : z.size = 4) (hr : IsRf W1 rb lv s) (hrb : rb < w.heap.size) (hg : (w.alloc (.cells z 24)).grownBy W1 (some rb)) (hx : RdFo W1 (Iv (w.alloc (.cells z 24)).heap.size W1.heap.size) sv x.kids) :
    EfSt w (W1.alloc (.cells (exArr x sv) 24)) rb lv s W1.heap.size x sv := by
  have hs := hg.size
  rw [World.size_alloc] at hs hx
  refine ⟨hr.alloc _, gb_alloc (gb_trans (gb_alloc gb_refl _) hg) _, hrb, ⟨z, hz, hpA ((hg.block _ (by rw [World.size_alloc]; omega) (fun e => by injection e; omega)).trans (heap_alloc_last w _)) _⟩, heap_alloc_last W1 _, ?_, by omega, by rw [World.size_alloc]; omega⟩
  exact (hx.alloc (fun b hb => hb.2) _).more fun b hb => ⟨⟨hb.1, by have := hb.2; rw [World.size_alloc]; omega⟩, by have := hb.2; omega⟩
end

/-- How memory stands where only the result has a block: the parser, and that block. -/
def NfSt (w W : World) (rb : Nat) (lv : Value) (s : Rs) : Prop :=
  IsRf W rb lv s ∧ w.grownBy W (some rb) ∧ rb < w.heap.size ∧ w.heap.size < W.heap.size ∧ ∃ cs : Array Value, cs.size = 4 ∧ W.heap[w.heap.size]? = some (.cells cs 24 (0, 0))
section
variable {w W W' : World} {rb g : Nat} {s s' : Rs} {lv sv : Value} {x : Ex}
theorem NfSt.first_ {z : Array Value} (hz : z.size = 4) (hr : IsRf w rb lv s) : NfSt w (w.alloc (.cells z 24)) rb lv s :=
  ⟨hr.alloc _, gb_alloc gb_refl _, hr.lt, by rw [World.size_alloc]; omega, z, hz, heap_alloc_last w _⟩
theorem NfSt.call (h : NfSt w W rb lv s) (hr : IsRf W' rb lv s') (hg : W.grownBy W' (some rb)) : NfSt w W' rb lv s' := by
  obtain ⟨h1, h2, h3, h4, cs, h5, h6⟩ := h
  have hs := hg.size
  exact ⟨hr, gb_trans h2 hg, h3, by omega, cs, h5, (hg.block _ h4 (fun e => by injection e; omega)).trans h6⟩
theorem NfSt.below (h : NfSt w W rb lv s) (hb : Below W.heap.size W W') : NfSt w W' rb lv s := h.call (h.1.below hb h.1.lt) (gb_belowS gb_refl hb)
theorem NfSt.pos (h : NfSt w W rb lv s) (k' : Nat) : NfSt w (W.setCell ⟨rb, 1, none⟩ (.int .i64 k')) rb lv ⟨k', s.er, s.off⟩ := h.call (h.1.set k') (gb_set gb_refl _)
theorem NfSt.alloc (h : NfSt w W rb lv s) (o : Obj) : NfSt w (W.alloc o) rb lv s := h.below ((Below.refl _ _).alloc (Nat.le_refl _) o)
theorem NfSt.rdx {xs : List Lx} (h : NfSt w W rb lv s) (hl : RdXs w rb lv xs) : RdXs W rb lv xs := hl.gb h.2.1 h.2.2.1
theorem NfSt.leave (h : NfSt w W rb lv s) {S : Nat → Prop} (hx : RdFo W S sv x.kids) (hS : ∀ b, S b → w.heap.size < b ∧ b < W.heap.size) : (W.setRow w.heap.size (exArr x sv)).heap[w.heap.size]? = some (.cells (exArr x sv) 24 (0, 0)) ∧ w.grownBy (W.setRow w.heap.size (exArr x sv)) (some rb) ∧ RdFo (W.setRow w.heap.size (exArr x sv)) (Iv w.heap.size (W.setRow w.heap.size (exArr x sv)).heap.size) sv x.kids ∧ IsRf (W.setRow w.heap.size (exArr x sv)) rb lv s := by
  obtain ⟨h1, h2, h3, h4, cs, h5, h6⟩ := h
  rw [show (W.setRow w.heap.size (exArr x sv)).heap.size = W.heap.size by simp]
  refine ⟨setRow_heap _ _ _ _ _ _ h6, gb_setRow h2 (.inr (Nat.le_refl _)) _, (hx.setRow (fun b hb => by have := hS b hb; omega) _).more (fun b hb => ⟨by have := hS b hb; omega, (hS b hb).2⟩), h1.row (by omega) _⟩
end

/-- How memory stands where a lexeme lies in a block g, too. -/
def LfSt (w W : World) (rb : Nat) (lv : Value) (s : Rs) (g : Nat) (y : Lx) : Prop :=
  NfSt w W rb lv s ∧ W.heap[g]? = some (.cells #[.int .i64 y.kind, .string (str y.text), .int .i64 y.num, .int .i64 y.off] 49 (0, 0)) ∧ w.heap.size < g ∧ g < W.heap.size
section
variable {w W W' W1 : World} {rb g : Nat} {s s' : Rs} {lv sv : Value} {x : Ex} {y : Lx}
theorem LfSt.first_ (h : NfSt w W rb lv s) : LfSt w (W.alloc (.cells #[.int .i64 y.kind, .string (str y.text), .int .i64 y.num, .int .i64 y.off] 49)) rb lv s W.heap.size y :=
  ⟨h.alloc _, heap_alloc_last W _, h.2.2.2.1, by rw [World.size_alloc]; omega⟩
theorem LfSt.call (h : LfSt w W rb lv s g y) (hr : IsRf W' rb lv s') (hg : W.grownBy W' (some rb)) : LfSt w W' rb lv s' g y := by
  obtain ⟨h1, h2, h3, h4⟩ := h
  have hs := hg.size
  have hrb := h1.2.2.1
  exact ⟨h1.call hr hg, (hg.block _ h4 (fun e => by injection e; omega)).trans h2, h3, by omega⟩
theorem LfSt.below (h : LfSt w W rb lv s g y) (hb : Below W.heap.size W W') : LfSt w W' rb lv s g y := h.call (h.1.1.below hb h.1.1.lt) (gb_belowS gb_refl hb)
theorem LfSt.pos (h : LfSt w W rb lv s g y) (k' : Nat) : LfSt w (W.setCell ⟨rb, 1, none⟩ (.int .i64 k')) rb lv ⟨k', s.er, s.off⟩ g y := h.call (h.1.1.set k') (gb_set gb_refl _)
theorem LfSt.cells (h : LfSt w W rb lv s g y) : W.cell? ⟨g, 0, none⟩ = some (.int .i64 y.kind) ∧ W.cell? ⟨g, 1, none⟩ = some (.string (str y.text)) ∧ W.cell? ⟨g, 2, none⟩ = some (.int .i64 y.num) ∧ W.cell? ⟨g, 3, none⟩ = some (.int .i64 y.off) ∧ g < W.heap.size :=
  ⟨cell_of_box h.2.1 rfl, cell_of_box h.2.1 rfl, cell_of_box h.2.1 rfl, cell_of_box h.2.1 rfl, h.2.2.2⟩
/-- The block of an expression, made behind the call that read it. -/
theorem EfSt.later_ (h : NfSt w W rb lv s) (hr : IsRf W1 rb lv s') (hg : W.grownBy W1 (some rb)) (hx : RdFo W1 (Iv W.heap.size W1.heap.size) sv x.kids) : EfSt w (W1.alloc (.cells (exArr x sv) 24)) rb lv s' W1.heap.size x sv := by
  have hs := hg.size
  obtain ⟨h1, h2, h3, h4, cs, h5, h6⟩ := h.call hr hg
  have h7 := h.2.2.2.1
  refine ⟨hr.alloc _, gb_alloc h2 _, h3, ⟨cs, h5, hpA h6 _⟩, heap_alloc_last W1 _, ?_, h4, by rw [World.size_alloc]; omega⟩
  exact (hx.alloc (fun b hb => hb.2) _).more fun b hb => ⟨⟨by have := hb.1; omega, by have := hb.2; rw [World.size_alloc]; omega⟩, by have := hb.2; omega⟩
theorem EfSt.toN (h : EfSt w W rb lv s g x sv) : NfSt w W rb lv s := ⟨h.1, h.2.1, h.2.2.1, by have := h.lt; omega, h.2.2.2.1⟩
end


end Go.Proofs.YtkalkglllgebkaaDoor

namespace Saw
/-- The state behind fail. -/
def Rs.fails (s : Rs) (er off : Int) : Rs := if s.er = 0 then ⟨s.k, er, off⟩ else s
end Saw
namespace Go.Proofs.YtkalkglllgebkaaDoor
open Go.RowKit Saw

def RfUnit (w : World) (rb : Nat) (lv : Value) (s' : Rs) (e : Ending) (w' : World) : Prop := e = .returned (.tuple #[]) ∧ w.grownBy w' (some rb) ∧ IsRf w' rb lv s'

set_option maxRecDepth 100000 in
set_option maxHeartbeats 400000 in
theorem fail_rf (w : World) (rb : Nat) (lv : Value) (s : Rs) (er off : Int) (hr : IsRf w rb lv s) :
    Calls Tryd.prog 41 #[.pointer (some ⟨rb, 0, none⟩), .int .i64 er, .int .i64 off] w (RfUnit w rb lv (s.fails er off)) := by
  have HR := Lib.hid hr
  obtain ⟨c0, c1, c2, c3, f1, f2, f3, hrb⟩ := hr.cells
  clear hr
  by_cases h0 : s.er = 0
  · have hb : (s.er == 0) = true := by rw [beq_iff_eq]; exact h0
    have HS : Hid (s.fails er off = ⟨s.k, er, off⟩) := Lib.hid (if_pos h0)
    clear h0
    go_enter Tryd.func41, Tryd.ntmps41
    go_wp2_with fail
    rw [HS.out]
    exact bodyPost_ret (results_none rfl _ _ _) rfl ⟨rfl, gb_set (gb_set gb_refl _) _, HR.out.err er off⟩
  · have hb : (s.er == 0) = false := by rw [beq_eq_false_iff_ne]; exact h0
    have HS : Hid (s.fails er off = s) := Lib.hid (if_neg h0)
    clear h0
    go_enter Tryd.func41, Tryd.ntmps41
    go_wp2_with fail
    rw [HS.out]
    exact bodyPost_ret (results_none rfl _ _ _) rfl ⟨rfl, gb_refl, HR.out⟩

set_option maxRecDepth 100000 in
set_option maxHeartbeats 400000 in
theorem is_rf (w : World) (rb : Nat) (lv : Value) (s : Rs) (xs : List Lx) (t : ByteArray) (hr : IsRf w rb lv s) (hl : RdXs w rb lv xs) (hkx : s.k < xs.length) (_hk : xs.length < 1000000) :
    Calls Tryd.prog 75 #[.pointer (some ⟨rb, 0, none⟩), .string t] w (BoolB (decide (s.er = 0) && isAn xs s.k (bts t)) w) := by
  obtain ⟨c0, c1, c2, c3, f1, f2, f3, hrb⟩ := hr.cells
  obtain ⟨x, hxe⟩ : ∃ x, lxAt xs s.k = x := ⟨_, rfl⟩
  obtain ⟨b, off, cc, rfl, hcc, hbs, hml, d0, d1, d2, d3⟩ := lx_reads hl hkx hxe
  have hbs' : b < w.heap.size := by omega
  have ht := str_eqC x.text t
  obtain ⟨m, hm⟩ : ∃ m, (x.text == bts t) = m := ⟨_, rfl⟩
  rw [hm] at ht
  have hq : (decide (s.er = 0) && isAn xs s.k (bts t)) = (s.er == 0 && (x.kind == 1 || x.kind == 3) && m) := by
    rw [isAn, hxe, hm, ← Bool.and_assoc]
    rfl
  obtain ⟨p0, h0⟩ : ∃ p, (s.er == 0) = p := ⟨_, rfl⟩
  obtain ⟨p1, h1⟩ : ∃ p, (x.kind == 1) = p := ⟨_, rfl⟩
  obtain ⟨p3, h3⟩ : ∃ p, (x.kind == 3) = p := ⟨_, rfl⟩
  rw [h0, h1, h3] at hq
  rw [hq]
  clear hr hl hxe hm hq
  go_enter Tryd.func75, Tryd.ntmps75
  go_wp2_with fail
  go_region
  cases p0 with
  | false =>
    go_wp2_with fail
    go_ret
    exact ⟨rfl, ((Below.refl _ _).alloc (Nat.le_refl _) _).drew⟩
  | true =>
    cases p1 with
    | true =>
      go_wp2_with fail
      go_ret
      exact ⟨rfl, ((Below.refl _ _).alloc (Nat.le_refl _) _).drew⟩
    | false =>
      cases p3 with
      | true =>
        go_wp2_with fail
        go_ret
        exact ⟨rfl, ((Below.refl _ _).alloc (Nat.le_refl _) _).drew⟩
      | false =>
        go_wp2_with fail
        go_ret
        exact ⟨rfl, ((Below.refl _ _).alloc (Nat.le_refl _) _).drew⟩

/-- The state behind take. -/
def takeRf (xs : List Lx) (s : Rs) (t : List UInt8) : Rs := if (decide (s.er = 0) && isAn xs s.k t) = true then ⟨s.k + 1, s.er, s.off⟩ else s.fails 5 (lxAt xs s.k).off

set_option maxRecDepth 100000 in
set_option maxHeartbeats 400000 in
theorem take_rf (w : World) (rb : Nat) (lv : Value) (s : Rs) (xs : List Lx) (t : ByteArray) (hr : IsRf w rb lv s) (hl : RdXs w rb lv xs) (hkx : s.k < xs.length) (hk : xs.length < 1000000) :
    Calls Tryd.prog 50 #[.pointer (some ⟨rb, 0, none⟩), .string t] w (RfUnit w rb lv (takeRf xs s (bts t))) := by
  have HI := Lib.hid (is_rf w rb lv s xs t hr hl hkx hk)
  have HR := Lib.hid hr
  have HL := Lib.hid hl
  obtain ⟨q, hq⟩ : ∃ q, (decide (s.er = 0) && isAn xs s.k (bts t)) = q := ⟨_, rfl⟩
  have HT : Hid (takeRf xs s (bts t) = if q = true then ⟨s.k + 1, s.er, s.off⟩ else s.fails 5 (lxAt xs s.k).off) := Lib.hid (by rw [takeRf, hq])
  rw [hq] at HI
  obtain ⟨s', hs'⟩ : ∃ s', takeRf xs s (bts t) = s' := ⟨_, rfl⟩
  rw [hs'] at HT ⊢
  clear hr hl hq hs'
  go_enter Tryd.func50, Tryd.ntmps50
  go_wp2_with fail
  refine HI.out.mono ?_
  rintro e w1 ⟨he, hb⟩
  subst he
  have HR1 := Lib.hid (HR.out.below hb HR.out.lt)
  have HL1 := Lib.hid (HL.out.gb (gb_belowS gb_refl hb) HR.out.lt)
  have HB := Lib.hid (gb_belowS (row := some rb) gb_refl hb)
  obtain ⟨c0, c1, c2, c3, f1, f2, f3, hrb⟩ := HR1.out.cells
  clear hb HI HR HL
  cases q with
  | true =>
    have hmw : IntKind.i64.wrap ((s.k : Int) + 1) = ((s.k + 1 : Nat) : Int) := by rw [IntKind.wrap_i64] <;> omega
    go_wp2_with fail
    refine bodyPost_ret (results_none rfl _ _ _) rfl ⟨rfl, gb_set HB.out _, ?_⟩
    rw [HT.out]
    exact HR1.out.set (s.k + 1)
  | false =>
    obtain ⟨x, hxe⟩ : ∃ x, lxAt xs s.k = x := ⟨_, rfl⟩
    obtain ⟨b, off, cc, rfl, hcc, hbs, hml, d0, d1, d2, d3⟩ := lx_reads HL1.out hkx hxe
    rw [hxe] at HT
    have hbs' : b < w1.heap.size := by omega
    have HF := Lib.hid (fun W' (hb : Below w1.heap.size w1 W') => fail_rf W' rb (.slice (some ⟨b, off, none⟩) xs.length cc) s 5 x.off (HR1.out.below hb HR1.out.lt))
    clear hxe HL1
    go_wp2_with fail
    go_region_with (first
      | (go_at_call 41; refine (HF.out _ (Below.refl _ _).drew).mono ?_; rintro e w2 ⟨he, hg, hr2⟩; subst he; (have HG2 := Lib.hid hg); (have HR2 := Lib.hid hr2); clear hg hr2))
    all_goals
      go_wp2_with fail
      refine bodyPost_ret (results_none rfl _ _ _) rfl ⟨rfl, gb_trans (gb_drew HB.out) HG2.out, ?_⟩
      rw [HT.out]
      exact HR2.out

def TwoPost (w : World) (op : Int) (x y : Ex) (sv tv : Value) (e : Ending) (w' : World) : Prop :=
  ∃ g, e = .returned (.agg #[.int .i64 op, .int .i64 0, .string (str []), .slice (some ⟨g, 0, none⟩) 2 2]) ∧ w.heap.size ≤ g ∧ g < w'.heap.size ∧ w'.rangeAt g 0 (exCells x sv) ∧ w'.rangeAt g 4 (exCells y tv) ∧ Below w.heap.size w w'

set_option maxRecDepth 100000 in
set_option maxHeartbeats 1000000 in
theorem two_rf (w : World) (op : Int) (x y : Ex) (A A2 : Option Addr) (n n2 c c2 : Nat) :
    Calls Tryd.prog 92 #[.int .i64 op, .agg #[.int .i64 x.op, .int .i64 x.n, .string (str x.name), .slice A n c], .agg #[.int .i64 y.op, .int .i64 y.n, .string (str y.name), .slice A2 n2 c2]] w (TwoPost w op x y (.slice A n c) (.slice A2 n2 c2)) := by
  go_enter Tryd.func92, Tryd.ntmps92
  go_wp2_with fail
  obtain ⟨W3, hW3⟩ : ∃ W, ((w.alloc (.cells #[.int .i64 x.op, .int .i64 x.n, .string (str x.name), .slice A n c] 24)).alloc (.cells #[.int .i64 y.op, .int .i64 y.n, .string (str y.name), .slice A2 n2 c2] 24)).alloc (.cells #[.int .i64 op, .int .i64 0, .string ⟨#[]⟩, .slice (some ⟨w.heap.size + 1 + 1 + 1, 0, none⟩) 2 2] 24) = W := ⟨_, rfl⟩
  have hb3 : Below w.heap.size w W3 := by rw [← hW3]; exact bel_alloc (bel_alloc (bel_alloc (Below.refl _ _)))
  have hz3 : W3.heap.size = w.heap.size + 1 + 1 + 1 := by rw [← hW3, World.size_alloc, World.size_alloc, World.size_alloc]
  have hr3 : W3.heap[w.heap.size + 1 + 1]? = some (.cells (exArr ⟨op, 0, [], .nil⟩ (.slice (some ⟨w.heap.size + 1 + 1 + 1, 0, none⟩) 2 2)) 24 (0, 0)) := by
    rw [← hW3]
    have h := heap_alloc_last ((w.alloc (.cells #[.int .i64 x.op, .int .i64 x.n, .string (str x.name), .slice A n c] 24)).alloc (.cells #[.int .i64 y.op, .int .i64 y.n, .string (str y.name), .slice A2 n2 c2] 24)) (.cells #[.int .i64 op, .int .i64 0, .string ⟨#[]⟩, .slice (some ⟨w.heap.size + 1 + 1 + 1, 0, none⟩) 2 2] 24)
    rw [World.size_alloc, World.size_alloc] at h
    exact h
  rw [hW3]
  obtain ⟨q1, q2⟩ := rangeAt_two W3 x y (.slice A n c) (.slice A2 n2 c2) 24
  refine bodyPost_ret (ex_res (x := ⟨op, 0, [], .nil⟩) (sv := .slice (some ⟨w.heap.size + 1 + 1 + 1, 0, none⟩) 2 2) Tryd.results92 _ _ (w.heap.size + 1 + 1) rfl (hpA hr3 _)) rfl ⟨W3.heap.size, ?_, by omega, by rw [World.size_alloc]; omega, q1, q2, bel_alloc hb3⟩
  rw [hz3]
  rfl

end Go.Proofs.YtkalkglllgebkaaDoor

namespace Saw
theorem orL_eq (xs : List Lx) (m : Nat) (x : Ex) (k : Nat) : rd xs (m + 1) (.orL x) k = if isWd xs k orW = true then andThen (rd xs m .conj (k + 1)) (fun e' k' => rd xs m (.orL (two 11 x e')) k') else some (.ok x k) := by rw [rd]
theorem andL_eq (xs : List Lx) (m : Nat) (x : Ex) (k : Nat) : rd xs (m + 1) (.andL x) k = if isWd xs k andW = true then andThen (rd xs m .neg (k + 1)) (fun e' k' => rd xs m (.andL (two 10 x e')) k') else some (.ok x k) := by rw [rd]
theorem mulL_eq (xs : List Lx) (m : Nat) (x : Ex) (k : Nat) : rd xs (m + 1) (.mulL x) k = if isMk xs k [42] = true then andThen (rd xs m .fact (k + 1)) (fun e' k' => rd xs m (.mulL (two 5 x e')) k') else some (.ok x k) := by rw [rd]
end Saw
namespace Go.Proofs.YtkalkglllgebkaaDoor
open Go.RowKit Saw

set_option maxRecDepth 100000 in
set_option maxHeartbeats 1000000 in
theorem expr_rf {xs : List Lx} (hX : XrOk xs) {n : Nat} (IH : ∀ m, m ≤ n → RfCalls xs m) (k : Nat) (r : RR) (h : rd xs (n + 1) .expr k = some r) (hkx : k < xs.length)
    (w : World) (rb : Nat) (lv : Value) (hr : IsRf w rb lv ⟨k, 0, 0⟩) (hl : RdXs w rb lv xs) : Calls Tryd.prog 69 #[.pointer (some ⟨rb, 0, none⟩)] w (RfPost w rb lv xs r) := by
  have hrb := hr.lt
  have hxm := hX.1.2.1
  have hend := hX.1.1
  rw [rd] at h
  obtain ⟨r1, h1, hst⟩ := rf_start (L := .orL) h
  have HC := Lib.hid (IH n (Nat.le_refl _) .conj _ rfl k r1 h1 hkx)
  have HNX := Lib.hid hst
  have HI := Lib.hid IH
  have HR := Lib.hid hr
  have HL := Lib.hid hl
  have HE := Lib.hid hend
  have HAN := Lib.hid (fun k => an_word hX.2 k (t := orW) (by rfl))
  clear IH hr hl hend hX h h1 hst
  go_enter Tryd.func69, Tryd.ntmps69
  go_wp2_with fail
  refine (HC.out _ rb lv (HR.out.alloc _) (HL.out.gb (gb_alloc gb_refl _) hrb)).mono ?_
  rintro e w1 ⟨hg, y1, A1, c1, s1, he, hrd1, hr1, hk1, hrel⟩
  have HST := Lib.hid (EfSt.first_ rfl hr1 hrb hg hrd1)
  have HLP := Lib.hid (HNX.out _ _ hrel)
  subst he
  clear hg hrd1 hr1 hrel HC HNX
  go_wp2_with fail
  obtain ⟨g, hgq⟩ : ∃ g, w1.heap.size = g := ⟨_, rfl⟩
  rw [hgq] at HST ⊢
  clear hgq
  go_loopw [7] (fun _ wr => ∃ (x : Ex) (A : Option Addr) (c : Nat) (s : Rs), EfSt w wr rb lv s g x (.slice A x.kids.toList.length c) ∧ s.k < xs.length ∧ LpRel xs n .orL r x s) (fun _ wr => rfLeft rb xs.length wr)
  case atStart => exact ⟨y1, A1, c1, s1, HST.out, hk1, HLP.out⟩
  case round =>
    clear HST HLP hk1
    obtain ⟨x, A, c, s, hst, hk, hlp⟩ := hrel
    have HPOS := Lib.hid (rfLeft_of (len := xs.length) hst.1)
    have HS := Lib.hid hst
    have HLP := Lib.hid hlp
    clear hst hlp
    go_wp2_with fail
    refine (is_rf _ rb lv s xs _ HS.out.1 (HS.out.rdx HL.out) hk hxm).mono ?_
    rintro e w2 ⟨he, hb⟩
    have HS2 := Lib.hid (HS.out.below hb)
    clear hb HS
    obtain ⟨q, hq⟩ : ∃ q, (decide (s.er = 0) && isWd xs s.k orW) = q := ⟨_, rfl⟩
    rw [show (decide (s.er = 0) && isAn xs s.k (bts ⟨#[111, 114]⟩)) = q from by rw [← hq, ← HAN.out]; rfl] at he
    subst he
    have HQ := Lib.hid hq
    clear hq
    cases q with
    | false =>
      have HREL := Lib.hid (lp_end (op := 11) (C := .conj) (T := fun k => isWd xs k orW) (orL_eq xs) HLP.out HQ.out)
      clear HLP HQ
      have HG := Lib.hid HS2.out.at_g
      obtain ⟨cs, hcs, hres⟩ := HS2.out.2.2.2.1
      have HCS := Lib.hid hcs
      have HRES := Lib.hid hres
      clear hcs hres
      go_wp2_with (first
        | ((with_reducible refine ex_load g 0 x (.slice A x.kids.toList.length c) ?hx HG.out ?_); (case hx => rfl))
        | ((with_reducible refine ex_put w.heap.size x (.slice A x.kids.toList.length c) rfl ?hx ?hy HRES.out HCS ?_); (case hx => rfl); (case hy => rfl)))
      obtain ⟨p1, p2, p3, p4⟩ := HS2.out.leave
      exact bodyPost_ret (ex_res Tryd.results69 _ _ w.heap.size rfl p1) rfl ⟨p2, x, A, c, s, rfl, p3, p4, hk, HREL.out⟩
    | true =>
      have hk1 := isWd_in HE.out hk (Bool.and_eq_true_iff.1 HQ.out).2
      obtain ⟨her, hoff, m', r1, hm, hrd, hnx⟩ := lp_more HE.out (op := 11) (C := .conj) (T := fun k => isWd xs k orW) rfl (orL_eq xs) HLP.out HQ.out hk1
      obtain ⟨k2, er, off⟩ := s
      simp only at her hoff hk1 hk hrd
      subst her
      subst hoff
      have HNX := Lib.hid hnx
      have HRD := Lib.hid hrd
      clear hnx hrd HLP HQ
      obtain ⟨c0, c1', c2', c3', f1, f2, f3, hlt1⟩ := HS2.out.1.cells
      have hmw : IntKind.i64.wrap ((k2 : Int) + 1) = ((k2 + 1 : Nat) : Int) := by rw [IntKind.wrap_i64] <;> omega
      go_wp2_with fail
      have hS3 := HS2.out.pos (k2 + 1)
      obtain ⟨W3, hW3⟩ : ∃ W, w2.setCell ⟨rb, 1, none⟩ (.int .i64 ((k2 : Int) + 1)) = W := ⟨_, rfl⟩
      rw [show w2.setCell ⟨rb, 1, none⟩ (.int .i64 ((k2 + 1 : Nat) : Int)) = W3 from hW3] at hS3
      rw [hW3]
      have HS3 := Lib.hid hS3
      clear hS3 hW3 HS2 c0 c1' c2' c3' f1 f2 f3 hlt1 hmw
      obtain ⟨⟨g0, g1, g2, g3⟩, z0, z1, z2, z3⟩ := HS3.out.all
      go_region_with (first
        | (go_at_call 91; refine (HI.out m' hm .conj _ rfl _ _ HRD.out hk1 _ rb lv HS3.out.drew.1 (HS3.out.drew.rdx HL.out)).mono ?_; rintro e w5 ⟨hg, y, A2, c2, s2, he, hy, hr5, hk5, hrel⟩; subst he; (have HG5 := Lib.hid hg); (have HY5 := Lib.hid hy); (have HR5 := Lib.hid hr5); (have HK5 := Lib.hid hk5); (have HREL := Lib.hid hrel); obtain ⟨⟨b0, b1, b2, b3⟩, y0, y1, y2, y3⟩ := (HS3.out.drew.call hr5 hg).all; clear hg hy hr5 hk5 hrel)
        | (go_at_call 92; refine (two_rf _ _ _ _ _ _ _ _ _ _).mono ?_; rintro e w6 ⟨g2, he, hg2, hg3, q1, q2, hb6⟩; subst he; (have HG6 := Lib.hid hg2); (have HG7 := Lib.hid hg3); (have HQ1 := Lib.hid q1); (have HQ2 := Lib.hid q2); (have HB6 := Lib.hid hb6); obtain ⟨⟨d0, d1, d2, d3⟩, v0, v1, v2, v3⟩ := (((HS3.out.drew.call HR5.out HG5.out)).below hb6).all; clear hb6 hg2 hg3 q1 q2))
      all_goals
        have HS6 := Lib.hid (EfSt.two (op := 11) HS3.out.drew HR5.out HG5.out HY5.out HB6.out ⟨HG6.out, HG7.out⟩ HQ1.out HQ2.out)
        have hg6 := ((HS3.out.drew.call HR5.out HG5.out).below HB6.out).2.2.2.2.1
        rw [set4_row hg6 rfl]
        have HP6 := Lib.hid (rfLeft_of (len := xs.length) HS6.out.1)
        clear hg6
        go_wp2_with fail
        refine ⟨⟨Saw.two 11 x y, _, _, s2, HS6.out, HK5.out, (HNX.out _ _ HREL.out).1⟩, ?_⟩
        have h8 := (HNX.out _ _ HREL.out).2
        have h9 : rfLeft rb xs.length wr = xs.length - k2 := by simpa using HPOS.out
        rw [h9]
        refine Nat.lt_of_le_of_lt (Nat.le_of_eq HP6.out) ?_
        split
        · rename_i h10; have := h8 h10; omega
        · omega

set_option maxRecDepth 100000 in
set_option maxHeartbeats 1000000 in
theorem conj_rf {xs : List Lx} (hX : XrOk xs) {n : Nat} (IH : ∀ m, m ≤ n → RfCalls xs m) (k : Nat) (r : RR) (h : rd xs (n + 1) .conj k = some r) (hkx : k < xs.length)
    (w : World) (rb : Nat) (lv : Value) (hr : IsRf w rb lv ⟨k, 0, 0⟩) (hl : RdXs w rb lv xs) : Calls Tryd.prog 91 #[.pointer (some ⟨rb, 0, none⟩)] w (RfPost w rb lv xs r) := by
  have hrb := hr.lt
  have hxm := hX.1.2.1
  have hend := hX.1.1
  rw [rd] at h
  obtain ⟨r1, h1, hst⟩ := rf_start (L := .andL) h
  have HC := Lib.hid (IH n (Nat.le_refl _) .neg _ rfl k r1 h1 hkx)
  have HNX := Lib.hid hst
  have HI := Lib.hid IH
  have HR := Lib.hid hr
  have HL := Lib.hid hl
  have HE := Lib.hid hend
  have HAN := Lib.hid (fun k => an_word hX.2 k (t := andW) (by rfl))
  clear IH hr hl hend hX h h1 hst
  go_enter Tryd.func91, Tryd.ntmps91
  go_wp2_with fail
  refine (HC.out _ rb lv (HR.out.alloc _) (HL.out.gb (gb_alloc gb_refl _) hrb)).mono ?_
  rintro e w1 ⟨hg, y1, A1, c1, s1, he, hrd1, hr1, hk1, hrel⟩
  have HST := Lib.hid (EfSt.first_ rfl hr1 hrb hg hrd1)
  have HLP := Lib.hid (HNX.out _ _ hrel)
  subst he
  clear hg hrd1 hr1 hrel HC HNX
  go_wp2_with fail
  obtain ⟨g, hgq⟩ : ∃ g, w1.heap.size = g := ⟨_, rfl⟩
  rw [hgq] at HST ⊢
  clear hgq
  go_loopw [7] (fun _ wr => ∃ (x : Ex) (A : Option Addr) (c : Nat) (s : Rs), EfSt w wr rb lv s g x (.slice A x.kids.toList.length c) ∧ s.k < xs.length ∧ LpRel xs n .andL r x s) (fun _ wr => rfLeft rb xs.length wr)
  case atStart => exact ⟨y1, A1, c1, s1, HST.out, hk1, HLP.out⟩
  case round =>
    clear HST HLP hk1
    obtain ⟨x, A, c, s, hst, hk, hlp⟩ := hrel
    have HPOS := Lib.hid (rfLeft_of (len := xs.length) hst.1)
    have HS := Lib.hid hst
    have HLP := Lib.hid hlp
    clear hst hlp
    go_wp2_with fail
    refine (is_rf _ rb lv s xs _ HS.out.1 (HS.out.rdx HL.out) hk hxm).mono ?_
    rintro e w2 ⟨he, hb⟩
    have HS2 := Lib.hid (HS.out.below hb)
    clear hb HS
    obtain ⟨q, hq⟩ : ∃ q, (decide (s.er = 0) && isWd xs s.k andW) = q := ⟨_, rfl⟩
    rw [show (decide (s.er = 0) && isAn xs s.k (bts ⟨#[97, 110, 100]⟩)) = q from by rw [← hq, ← HAN.out]; rfl] at he
    subst he
    have HQ := Lib.hid hq
    clear hq
    cases q with
    | false =>
      have HREL := Lib.hid (lp_end (op := 10) (C := .neg) (T := fun k => isWd xs k andW) (andL_eq xs) HLP.out HQ.out)
      clear HLP HQ
      have HG := Lib.hid HS2.out.at_g
      obtain ⟨cs, hcs, hres⟩ := HS2.out.2.2.2.1
      have HCS := Lib.hid hcs
      have HRES := Lib.hid hres
      clear hcs hres
      go_wp2_with (first
        | ((with_reducible refine ex_load g 0 x (.slice A x.kids.toList.length c) ?hx HG.out ?_); (case hx => rfl))
        | ((with_reducible refine ex_put w.heap.size x (.slice A x.kids.toList.length c) rfl ?hx ?hy HRES.out HCS ?_); (case hx => rfl); (case hy => rfl)))
      obtain ⟨p1, p2, p3, p4⟩ := HS2.out.leave
      exact bodyPost_ret (ex_res Tryd.results91 _ _ w.heap.size rfl p1) rfl ⟨p2, x, A, c, s, rfl, p3, p4, hk, HREL.out⟩
    | true =>
      have hk1 := isWd_in HE.out hk (Bool.and_eq_true_iff.1 HQ.out).2
      obtain ⟨her, hoff, m', r1, hm, hrd, hnx⟩ := lp_more HE.out (op := 10) (C := .neg) (T := fun k => isWd xs k andW) rfl (andL_eq xs) HLP.out HQ.out hk1
      obtain ⟨k2, er, off⟩ := s
      simp only at her hoff hk1 hk hrd
      subst her
      subst hoff
      have HNX := Lib.hid hnx
      have HRD := Lib.hid hrd
      clear hnx hrd HLP HQ
      obtain ⟨c0, c1', c2', c3', f1, f2, f3, hlt1⟩ := HS2.out.1.cells
      have hmw : IntKind.i64.wrap ((k2 : Int) + 1) = ((k2 + 1 : Nat) : Int) := by rw [IntKind.wrap_i64] <;> omega
      go_wp2_with fail
      have hS3 := HS2.out.pos (k2 + 1)
      obtain ⟨W3, hW3⟩ : ∃ W, w2.setCell ⟨rb, 1, none⟩ (.int .i64 ((k2 : Int) + 1)) = W := ⟨_, rfl⟩
      rw [show w2.setCell ⟨rb, 1, none⟩ (.int .i64 ((k2 + 1 : Nat) : Int)) = W3 from hW3] at hS3
      rw [hW3]
      have HS3 := Lib.hid hS3
      clear hS3 hW3 HS2 c0 c1' c2' c3' f1 f2 f3 hlt1 hmw
      obtain ⟨⟨g0, g1, g2, g3⟩, z0, z1, z2, z3⟩ := HS3.out.all
      go_region_with (first
        | (go_at_call 104; refine (HI.out m' hm .neg _ rfl _ _ HRD.out hk1 _ rb lv HS3.out.drew.1 (HS3.out.drew.rdx HL.out)).mono ?_; rintro e w5 ⟨hg, y, A2, c2, s2, he, hy, hr5, hk5, hrel⟩; subst he; (have HG5 := Lib.hid hg); (have HY5 := Lib.hid hy); (have HR5 := Lib.hid hr5); (have HK5 := Lib.hid hk5); (have HREL := Lib.hid hrel); obtain ⟨⟨b0, b1, b2, b3⟩, y0, y1, y2, y3⟩ := (HS3.out.drew.call hr5 hg).all; clear hg hy hr5 hk5 hrel)
        | (go_at_call 92; refine (two_rf _ _ _ _ _ _ _ _ _ _).mono ?_; rintro e w6 ⟨g2, he, hg2, hg3, q1, q2, hb6⟩; subst he; (have HG6 := Lib.hid hg2); (have HG7 := Lib.hid hg3); (have HQ1 := Lib.hid q1); (have HQ2 := Lib.hid q2); (have HB6 := Lib.hid hb6); obtain ⟨⟨d0, d1, d2, d3⟩, v0, v1, v2, v3⟩ := (((HS3.out.drew.call HR5.out HG5.out)).below hb6).all; clear hb6 hg2 hg3 q1 q2))
      all_goals
        have HS6 := Lib.hid (EfSt.two (op := 10) HS3.out.drew HR5.out HG5.out HY5.out HB6.out ⟨HG6.out, HG7.out⟩ HQ1.out HQ2.out)
        have hg6 := ((HS3.out.drew.call HR5.out HG5.out).below HB6.out).2.2.2.2.1
        rw [set4_row hg6 rfl]
        have HP6 := Lib.hid (rfLeft_of (len := xs.length) HS6.out.1)
        clear hg6
        go_wp2_with fail
        refine ⟨⟨Saw.two 10 x y, _, _, s2, HS6.out, HK5.out, (HNX.out _ _ HREL.out).1⟩, ?_⟩
        have h8 := (HNX.out _ _ HREL.out).2
        have h9 : rfLeft rb xs.length wr = xs.length - k2 := by simpa using HPOS.out
        rw [h9]
        refine Nat.lt_of_le_of_lt (Nat.le_of_eq HP6.out) ?_
        split
        · rename_i h10; have := h8 h10; omega
        · omega

set_option maxRecDepth 100000 in
set_option maxHeartbeats 1000000 in
theorem term_rf {xs : List Lx} (hX : XrOk xs) {n : Nat} (IH : ∀ m, m ≤ n → RfCalls xs m) (k : Nat) (r : RR) (h : rd xs (n + 1) .term k = some r) (hkx : k < xs.length)
    (w : World) (rb : Nat) (lv : Value) (hr : IsRf w rb lv ⟨k, 0, 0⟩) (hl : RdXs w rb lv xs) : Calls Tryd.prog 126 #[.pointer (some ⟨rb, 0, none⟩)] w (RfPost w rb lv xs r) := by
  have hrb := hr.lt
  have hxm := hX.1.2.1
  have hend := hX.1.1
  rw [rd] at h
  obtain ⟨r1, h1, hst⟩ := rf_start (L := .mulL) h
  have HC := Lib.hid (IH n (Nat.le_refl _) .fact _ rfl k r1 h1 hkx)
  have HNX := Lib.hid hst
  have HI := Lib.hid IH
  have HR := Lib.hid hr
  have HL := Lib.hid hl
  have HE := Lib.hid hend
  have HAN := Lib.hid (fun k => an_mark hX.2 k (t := [42]) (by rfl))
  clear IH hr hl hend hX h h1 hst
  go_enter Tryd.func126, Tryd.ntmps126
  go_wp2_with fail
  refine (HC.out _ rb lv (HR.out.alloc _) (HL.out.gb (gb_alloc gb_refl _) hrb)).mono ?_
  rintro e w1 ⟨hg, y1, A1, c1, s1, he, hrd1, hr1, hk1, hrel⟩
  have HST := Lib.hid (EfSt.first_ rfl hr1 hrb hg hrd1)
  have HLP := Lib.hid (HNX.out _ _ hrel)
  subst he
  clear hg hrd1 hr1 hrel HC HNX
  go_wp2_with fail
  obtain ⟨g, hgq⟩ : ∃ g, w1.heap.size = g := ⟨_, rfl⟩
  rw [hgq] at HST ⊢
  clear hgq
  go_loopw [7] (fun _ wr => ∃ (x : Ex) (A : Option Addr) (c : Nat) (s : Rs), EfSt w wr rb lv s g x (.slice A x.kids.toList.length c) ∧ s.k < xs.length ∧ LpRel xs n .mulL r x s) (fun _ wr => rfLeft rb xs.length wr)
  case atStart => exact ⟨y1, A1, c1, s1, HST.out, hk1, HLP.out⟩
  case round =>
    clear HST HLP hk1
    obtain ⟨x, A, c, s, hst, hk, hlp⟩ := hrel
    have HPOS := Lib.hid (rfLeft_of (len := xs.length) hst.1)
    have HS := Lib.hid hst
    have HLP := Lib.hid hlp
    clear hst hlp
    go_wp2_with fail
    refine (is_rf _ rb lv s xs _ HS.out.1 (HS.out.rdx HL.out) hk hxm).mono ?_
    rintro e w2 ⟨he, hb⟩
    have HS2 := Lib.hid (HS.out.below hb)
    clear hb HS
    obtain ⟨q, hq⟩ : ∃ q, (decide (s.er = 0) && isMk xs s.k [42]) = q := ⟨_, rfl⟩
    rw [show (decide (s.er = 0) && isAn xs s.k (bts ⟨#[42]⟩)) = q from by rw [← hq, ← HAN.out]; rfl] at he
    subst he
    have HQ := Lib.hid hq
    clear hq
    cases q with
    | false =>
      have HREL := Lib.hid (lp_end (op := 5) (C := .fact) (T := fun k => isMk xs k [42]) (mulL_eq xs) HLP.out HQ.out)
      clear HLP HQ
      have HG := Lib.hid HS2.out.at_g
      obtain ⟨cs, hcs, hres⟩ := HS2.out.2.2.2.1
      have HCS := Lib.hid hcs
      have HRES := Lib.hid hres
      clear hcs hres
      go_wp2_with (first
        | ((with_reducible refine ex_load g 0 x (.slice A x.kids.toList.length c) ?hx HG.out ?_); (case hx => rfl))
        | ((with_reducible refine ex_put w.heap.size x (.slice A x.kids.toList.length c) rfl ?hx ?hy HRES.out HCS ?_); (case hx => rfl); (case hy => rfl)))
      obtain ⟨p1, p2, p3, p4⟩ := HS2.out.leave
      exact bodyPost_ret (ex_res Tryd.results126 _ _ w.heap.size rfl p1) rfl ⟨p2, x, A, c, s, rfl, p3, p4, hk, HREL.out⟩
    | true =>
      have hk1 := isMk_in HE.out hk (Bool.and_eq_true_iff.1 HQ.out).2
      obtain ⟨her, hoff, m', r1, hm, hrd, hnx⟩ := lp_more HE.out (op := 5) (C := .fact) (T := fun k => isMk xs k [42]) rfl (mulL_eq xs) HLP.out HQ.out hk1
      obtain ⟨k2, er, off⟩ := s
      simp only at her hoff hk1 hk hrd
      subst her
      subst hoff
      have HNX := Lib.hid hnx
      have HRD := Lib.hid hrd
      clear hnx hrd HLP HQ
      obtain ⟨c0, c1', c2', c3', f1, f2, f3, hlt1⟩ := HS2.out.1.cells
      have hmw : IntKind.i64.wrap ((k2 : Int) + 1) = ((k2 + 1 : Nat) : Int) := by rw [IntKind.wrap_i64] <;> omega
      go_wp2_with fail
      have hS3 := HS2.out.pos (k2 + 1)
      obtain ⟨W3, hW3⟩ : ∃ W, w2.setCell ⟨rb, 1, none⟩ (.int .i64 ((k2 : Int) + 1)) = W := ⟨_, rfl⟩
      rw [show w2.setCell ⟨rb, 1, none⟩ (.int .i64 ((k2 + 1 : Nat) : Int)) = W3 from hW3] at hS3
      rw [hW3]
      have HS3 := Lib.hid hS3
      clear hS3 hW3 HS2 c0 c1' c2' c3' f1 f2 f3 hlt1 hmw
      obtain ⟨⟨g0, g1, g2, g3⟩, z0, z1, z2, z3⟩ := HS3.out.all
      go_region_with (first
        | (go_at_call 128; refine (HI.out m' hm .fact _ rfl _ _ HRD.out hk1 _ rb lv HS3.out.drew.1 (HS3.out.drew.rdx HL.out)).mono ?_; rintro e w5 ⟨hg, y, A2, c2, s2, he, hy, hr5, hk5, hrel⟩; subst he; (have HG5 := Lib.hid hg); (have HY5 := Lib.hid hy); (have HR5 := Lib.hid hr5); (have HK5 := Lib.hid hk5); (have HREL := Lib.hid hrel); obtain ⟨⟨b0, b1, b2, b3⟩, y0, y1, y2, y3⟩ := (HS3.out.drew.call hr5 hg).all; clear hg hy hr5 hk5 hrel)
        | (go_at_call 92; refine (two_rf _ _ _ _ _ _ _ _ _ _).mono ?_; rintro e w6 ⟨g2, he, hg2, hg3, q1, q2, hb6⟩; subst he; (have HG6 := Lib.hid hg2); (have HG7 := Lib.hid hg3); (have HQ1 := Lib.hid q1); (have HQ2 := Lib.hid q2); (have HB6 := Lib.hid hb6); obtain ⟨⟨d0, d1, d2, d3⟩, v0, v1, v2, v3⟩ := (((HS3.out.drew.call HR5.out HG5.out)).below hb6).all; clear hb6 hg2 hg3 q1 q2))
      all_goals
        have HS6 := Lib.hid (EfSt.two (op := 5) HS3.out.drew HR5.out HG5.out HY5.out HB6.out ⟨HG6.out, HG7.out⟩ HQ1.out HQ2.out)
        have hg6 := ((HS3.out.drew.call HR5.out HG5.out).below HB6.out).2.2.2.2.1
        rw [set4_row hg6 rfl]
        have HP6 := Lib.hid (rfLeft_of (len := xs.length) HS6.out.1)
        clear hg6
        go_wp2_with fail
        refine ⟨⟨Saw.two 5 x y, _, _, s2, HS6.out, HK5.out, (HNX.out _ _ HREL.out).1⟩, ?_⟩
        have h8 := (HNX.out _ _ HREL.out).2
        have h9 : rfLeft rb xs.length wr = xs.length - k2 := by simpa using HPOS.out
        rw [h9]
        refine Nat.lt_of_le_of_lt (Nat.le_of_eq HP6.out) ?_
        split
        · rename_i h10; have := h8 h10; omega
        · omega

end Go.Proofs.YtkalkglllgebkaaDoor

namespace Saw
theorem add_end {xs : List Lx} {n : Nat} {r : RR} {x : Ex} {s : Rs} (h : LpRel xs n .addL r x s) (h1 : (decide (s.er = 0) && isMk xs s.k [43]) = false) (h2 : (decide (s.er = 0) && isMk xs s.k [45]) = false) : RfRel r x s := by
  obtain ⟨k, er, off⟩ := s
  rcases h with ⟨a1, a2, m, _, a3⟩ | ⟨a1, rfl⟩
  · simp only at a1 a2 a3 h1 h2
    subst a1 a2
    cases m with
    | zero => rw [rd] at a3; cases a3
    | succ m =>
      rw [rd, if_neg (by simpa using h1), if_neg (by simpa using h2)] at a3
      injection a3 with a3
      subst a3
      exact ⟨rfl, rfl⟩
  · exact ⟨a1, rfl, rfl⟩
theorem add_more {xs : List Lx} (he : LxEnds xs) {n : Nat} {op : Int} {r : RR} {x : Ex} {s : Rs} (h : LpRel xs n .addL r x s) (h0 : s.er = 0) (hop : ∀ m, rd xs (m + 1) (.addL x) s.k = andThen (rd xs m .term (s.k + 1)) (fun e' k' => rd xs m (.addL (two op x e')) k')) (hk : s.k + 1 < xs.length) :
    s.off = 0 ∧ ∃ m r1, m ≤ n ∧ rd xs m .term (s.k + 1) = some r1 ∧ ∀ y s', RfRel r1 y s' → LpRel xs n .addL r (two op x y) s' ∧ (s'.er = 0 → s.k < s'.k) := by
  obtain ⟨k, er, off⟩ := s
  rcases h with ⟨h1, h2, m, hm, h3⟩ | ⟨h1, _⟩
  · simp only at h1 h2 h3 hop hk ⊢
    refine ⟨h2, ?_⟩
    cases m with
    | zero => rw [rd] at h3; cases h3
    | succ m =>
      rw [hop] at h3
      rcases andThen_some h3 with ⟨er, off, h4, rfl⟩ | ⟨e1, k1, h4, h5⟩
      · refine ⟨m, _, by omega, h4, fun y s' hs => ?_⟩
        obtain ⟨a, rfl, rfl⟩ := hs
        exact ⟨.inr ⟨a, rfl⟩, fun h => absurd h a⟩
      · refine ⟨m, _, by omega, h4, fun y s' hs => ?_⟩
        obtain ⟨rfl, rfl⟩ := hs
        have h6 := rd_in he _ _ _ _ _ hk h4
        simp only [Lv.step] at h6
        exact ⟨.inl ⟨rfl, rfl, m, by omega, h5⟩, fun _ => by show k < k1; omega⟩
  · exact absurd h0 h1
theorem add_plus {xs : List Lx} {x : Ex} {k : Nat} (h : isMk xs k [43] = true) (m : Nat) : rd xs (m + 1) (.addL x) k = andThen (rd xs m .term (k + 1)) (fun e' k' => rd xs m (.addL (two 3 x e')) k') := by rw [rd, if_pos h]
theorem add_minus {xs : List Lx} {x : Ex} {k : Nat} (h0 : ¬ isMk xs k [43] = true) (h : isMk xs k [45] = true) (m : Nat) : rd xs (m + 1) (.addL x) k = andThen (rd xs m .term (k + 1)) (fun e' k' => rd xs m (.addL (two 4 x e')) k') := by rw [rd, if_neg h0, if_pos h]
theorem not_both {xs : List Lx} {k : Nat} (h : isMk xs k [43] = true) : isMk xs k [45] = false := by
  rw [isMk, lxIs, Bool.and_eq_true, beq_iff_eq, beq_iff_eq] at h
  rw [isMk, lxIs, h.2, Bool.and_eq_false_iff]
  exact .inr (by decide)
end Saw
namespace Go.Proofs.YtkalkglllgebkaaDoor
open Go.RowKit Saw

set_option maxRecDepth 100000 in
set_option maxHeartbeats 2000000 in
theorem sum_rf {xs : List Lx} (hX : XrOk xs) {n : Nat} (IH : ∀ m, m ≤ n → RfCalls xs m) (k : Nat) (r : RR) (h : rd xs (n + 1) .sum k = some r) (hkx : k < xs.length)
    (w : World) (rb : Nat) (lv : Value) (hr : IsRf w rb lv ⟨k, 0, 0⟩) (hl : RdXs w rb lv xs) : Calls Tryd.prog 122 #[.pointer (some ⟨rb, 0, none⟩)] w (RfPost w rb lv xs r) := by
  have hrb := hr.lt
  have hxm := hX.1.2.1
  have hend := hX.1.1
  rw [rd] at h
  obtain ⟨r1, h1, hst⟩ := rf_start (L := .addL) h
  have HC := Lib.hid (IH n (Nat.le_refl _) .term _ rfl k r1 h1 hkx)
  have HNX := Lib.hid hst
  have HI := Lib.hid IH
  have HR := Lib.hid hr
  have HL := Lib.hid hl
  have HE := Lib.hid hend
  have HAP := Lib.hid (fun k => an_mark hX.2 k (t := [43]) (by rfl))
  have HAM := Lib.hid (fun k => an_mark hX.2 k (t := [45]) (by rfl))
  clear IH hr hl hend hX h h1 hst
  go_enter Tryd.func122, Tryd.ntmps122
  go_wp2_with fail
  refine (HC.out _ rb lv (HR.out.alloc _) (HL.out.gb (gb_alloc gb_refl _) hrb)).mono ?_
  rintro e w1 ⟨hg, y1, A1, c1, s1, he, hrd1, hr1, hk1, hrel⟩
  have HST := Lib.hid (EfSt.first_ rfl hr1 hrb hg hrd1)
  have HLP := Lib.hid (HNX.out _ _ hrel)
  subst he
  clear hg hrd1 hr1 hrel HC HNX
  go_wp2_with fail
  obtain ⟨g, hgq⟩ : ∃ g, w1.heap.size = g := ⟨_, rfl⟩
  rw [hgq] at HST ⊢
  clear hgq
  go_loopw [4] (fun _ wr => ∃ (x : Ex) (A : Option Addr) (c : Nat) (s : Rs), EfSt w wr rb lv s g x (.slice A x.kids.toList.length c) ∧ s.k < xs.length ∧ LpRel xs n .addL r x s) (fun _ wr => rfLeft rb xs.length wr)
  case atStart => exact ⟨y1, A1, c1, s1, HST.out, hk1, HLP.out⟩
  case round =>
    clear HST HLP hk1
    obtain ⟨x, A, c, s, hst, hk, hlp⟩ := hrel
    have HPOS := Lib.hid (rfLeft_of (len := xs.length) hst.1)
    have HS := Lib.hid hst
    have HLP := Lib.hid hlp
    clear hst hlp
    go_wp2_with fail
    refine (is_rf _ rb lv s xs _ HS.out.1 (HS.out.rdx HL.out) hk hxm).mono ?_
    rintro e w2 ⟨he, hb⟩
    have HS2 := Lib.hid (HS.out.below hb)
    clear hb HS
    obtain ⟨q, hq⟩ : ∃ q, (decide (s.er = 0) && isMk xs s.k [43]) = q := ⟨_, rfl⟩
    rw [show (decide (s.er = 0) && isAn xs s.k (bts ⟨#[43]⟩)) = q from by rw [← hq, ← HAP.out]; rfl] at he
    subst he
    have HQ := Lib.hid hq
    clear hq
    cases q with
    | true =>
      have hqm : isAn xs s.k [45] = false := by rw [HAM.out]; exact not_both (Bool.and_eq_true_iff.1 HQ.out).2
      have HQM := Lib.hid hqm
      clear hqm
      go_wp2_with fail
      refine (is_rf _ rb lv s xs _ HS2.out.1 (HS2.out.rdx HL.out) hk hxm).mono ?_
      rintro e w3 ⟨he, hb⟩
      rw [show (decide (s.er = 0) && isAn xs s.k (bts ⟨#[45]⟩)) = false from by rw [show isAn xs s.k (bts ⟨#[45]⟩) = false from HQM.out, Bool.and_false]] at he
      subst he
      have HSX := Lib.hid (HS2.out.below hb)
      clear hb HS2 HQM
      have hk1 := isMk_in HE.out hk (Bool.and_eq_true_iff.1 HQ.out).2
      have h0 := of_decide_eq_true (Bool.and_eq_true_iff.1 HQ.out).1
      obtain ⟨hoff, m', r1, hm, hrd, hnx⟩ := add_more HE.out (op := 3) HLP.out h0 (add_plus (Bool.and_eq_true_iff.1 HQ.out).2) hk1
      have hs0 : s = ⟨s.k, 0, 0⟩ := by obtain ⟨k2, er, off⟩ := s; simp only at h0 hoff; subst h0; subst hoff; rfl
      have HNX := Lib.hid hnx
      have HRD := Lib.hid hrd
      have H0 := Lib.hid h0
      clear hnx hrd HLP h0 hoff
      rw [hs0] at HSX
      obtain ⟨k2, hk2⟩ : ∃ k2, s.k = k2 := ⟨_, rfl⟩
      have HK2 := Lib.hid hk2
      rw [hk2] at HSX hk1 HRD
      clear hs0 hk2
      obtain ⟨c0, c1', c2', c3', f1, f2, f3, hlt1⟩ := HSX.out.1.cells
      have hmw : IntKind.i64.wrap ((k2 : Int) + 1) = ((k2 + 1 : Nat) : Int) := by rw [IntKind.wrap_i64] <;> omega
      go_wp2_with fail
      have hS3 := HSX.out.pos (k2 + 1)
      obtain ⟨W3, hW3⟩ : ∃ W, w3.setCell ⟨rb, 1, none⟩ (.int .i64 ((k2 : Int) + 1)) = W := ⟨_, rfl⟩
      rw [show w3.setCell ⟨rb, 1, none⟩ (.int .i64 ((k2 + 1 : Nat) : Int)) = W3 from hW3] at hS3
      rw [hW3]
      have HS3 := Lib.hid hS3
      clear hS3 hW3 HSX c0 c1' c2' c3' f1 f2 f3 hlt1 hmw
      obtain ⟨⟨g0, g1, g2, g3⟩, z0, z1, z2, z3⟩ := HS3.out.all
      go_region_with (first
        | (go_at_call 126; refine (HI.out m' hm .term _ rfl _ _ HRD.out hk1 _ rb lv HS3.out.drew.1 (HS3.out.drew.rdx HL.out)).mono ?_; rintro e w5 ⟨hg, y, A2, c2, s2, he, hy, hr5, hk5, hrel⟩; subst he; (have HG5 := Lib.hid hg); (have HY5 := Lib.hid hy); (have HR5 := Lib.hid hr5); (have HK5 := Lib.hid hk5); (have HREL := Lib.hid hrel); obtain ⟨⟨b0, b1, b2, b3⟩, y0, y1, y2, y3⟩ := (HS3.out.drew.call hr5 hg).all; clear hg hy hr5 hk5 hrel)
        | (go_at_call 92; refine (two_rf _ _ _ _ _ _ _ _ _ _).mono ?_; rintro e w6 ⟨g2, he, hg2, hg3, q1, q2, hb6⟩; subst he; (have HG6 := Lib.hid hg2); (have HG7 := Lib.hid hg3); (have HQ1 := Lib.hid q1); (have HQ2 := Lib.hid q2); (have HB6 := Lib.hid hb6); obtain ⟨⟨d0, d1, d2, d3⟩, v0, v1, v2, v3⟩ := (((HS3.out.drew.call HR5.out HG5.out)).below hb6).all; clear hb6 hg2 hg3 q1 q2))
      all_goals
        have HS6 := Lib.hid (EfSt.two (op := 3) HS3.out.drew HR5.out HG5.out HY5.out HB6.out ⟨HG6.out, HG7.out⟩ HQ1.out HQ2.out)
        have hg6 := ((HS3.out.drew.call HR5.out HG5.out).below HB6.out).2.2.2.2.1
        rw [set4_row hg6 rfl]
        have HP6 := Lib.hid (rfLeft_of (len := xs.length) HS6.out.1)
        clear hg6
        go_wp2_with fail
        refine ⟨⟨Saw.two 3 x y, _, _, s2, HS6.out, HK5.out, (HNX.out _ _ HREL.out).1⟩, ?_⟩
        have h8 := (HNX.out _ _ HREL.out).2
        have h9 : rfLeft rb xs.length wr = xs.length - k2 := by rw [HPOS.out, if_pos H0.out, HK2.out]
        have h10 := HK2.out
        rw [h9]
        refine Nat.lt_of_le_of_lt (Nat.le_of_eq HP6.out) ?_
        split
        · rename_i h11; have := h8 h11; omega
        · omega
    | false =>
      go_wp2_with fail
      refine (is_rf _ rb lv s xs _ HS2.out.1 (HS2.out.rdx HL.out) hk hxm).mono ?_
      rintro e w3 ⟨he, hb⟩
      have HS3 := Lib.hid (HS2.out.below hb)
      clear hb HS2
      obtain ⟨q2, hq2⟩ : ∃ q, (decide (s.er = 0) && isMk xs s.k [45]) = q := ⟨_, rfl⟩
      rw [show (decide (s.er = 0) && isAn xs s.k (bts ⟨#[45]⟩)) = q2 from by rw [← hq2, ← HAM.out]; rfl] at he
      subst he
      have HQ1 := Lib.hid HQ.out
      clear HQ
      have HQ := Lib.hid hq2
      clear hq2
      cases q2 with
      | false =>
        have HREL := Lib.hid (add_end HLP.out HQ1.out HQ.out)
        clear HLP HQ HQ1
        have HG := Lib.hid HS3.out.at_g
        obtain ⟨cs, hcs, hres⟩ := HS3.out.2.2.2.1
        have HCS := Lib.hid hcs
        have HRES := Lib.hid hres
        clear hcs hres
        go_wp2_with (first
          | ((with_reducible refine ex_load g 0 x (.slice A x.kids.toList.length c) ?hx HG.out ?_); (case hx => rfl))
          | ((with_reducible refine ex_put w.heap.size x (.slice A x.kids.toList.length c) rfl ?hx ?hy HRES.out HCS ?_); (case hx => rfl); (case hy => rfl)))
        obtain ⟨p1, p2, p3, p4⟩ := HS3.out.leave
        exact bodyPost_ret (ex_res Tryd.results122 _ _ w.heap.size rfl p1) rfl ⟨p2, x, A, c, s, rfl, p3, p4, hk, HREL.out⟩
      | true =>
        have hn1 : ¬ isMk xs s.k [43] = true := fun h => by
          have h1 := HQ1.out
          rw [h, (Bool.and_eq_true_iff.1 HQ.out).1] at h1
          cases h1
        have HN1 := Lib.hid hn1
        clear hn1 HQ1
        go_wp2_with fail
        refine (is_rf _ rb lv s xs _ HS3.out.1 (HS3.out.rdx HL.out) hk hxm).mono ?_
        rintro e w4 ⟨he, hb⟩
        rw [show (decide (s.er = 0) && isAn xs s.k (bts ⟨#[45]⟩)) = true from by rw [← HQ.out, ← HAM.out]; rfl] at he
        subst he
        have HSX := Lib.hid (HS3.out.below hb)
        clear hb HS3
        have hk1 := isMk_in HE.out hk (Bool.and_eq_true_iff.1 HQ.out).2
        have h0 := of_decide_eq_true (Bool.and_eq_true_iff.1 HQ.out).1
        obtain ⟨hoff, m', r1, hm, hrd, hnx⟩ := add_more HE.out (op := 4) HLP.out h0 (add_minus HN1.out (Bool.and_eq_true_iff.1 HQ.out).2) hk1
        have hs0 : s = ⟨s.k, 0, 0⟩ := by obtain ⟨k2, er, off⟩ := s; simp only at h0 hoff; subst h0; subst hoff; rfl
        have HNX := Lib.hid hnx
        have HRD := Lib.hid hrd
        have H0 := Lib.hid h0
        clear hnx hrd HLP h0 hoff
        rw [hs0] at HSX
        obtain ⟨k2, hk2⟩ : ∃ k2, s.k = k2 := ⟨_, rfl⟩
        have HK2 := Lib.hid hk2
        rw [hk2] at HSX hk1 HRD
        clear hs0 hk2
        obtain ⟨c0, c1', c2', c3', f1, f2, f3, hlt1⟩ := HSX.out.1.cells
        have hmw : IntKind.i64.wrap ((k2 : Int) + 1) = ((k2 + 1 : Nat) : Int) := by rw [IntKind.wrap_i64] <;> omega
        go_wp2_with fail
        have hS3 := HSX.out.pos (k2 + 1)
        obtain ⟨W3, hW3⟩ : ∃ W, w4.setCell ⟨rb, 1, none⟩ (.int .i64 ((k2 : Int) + 1)) = W := ⟨_, rfl⟩
        rw [show w4.setCell ⟨rb, 1, none⟩ (.int .i64 ((k2 + 1 : Nat) : Int)) = W3 from hW3] at hS3
        rw [hW3]
        have HS3 := Lib.hid hS3
        clear hS3 hW3 HSX c0 c1' c2' c3' f1 f2 f3 hlt1 hmw
        obtain ⟨⟨g0, g1, g2, g3⟩, z0, z1, z2, z3⟩ := HS3.out.all
        go_region_with (first
          | (go_at_call 126; refine (HI.out m' hm .term _ rfl _ _ HRD.out hk1 _ rb lv HS3.out.drew.1 (HS3.out.drew.rdx HL.out)).mono ?_; rintro e w5 ⟨hg, y, A2, c2, s2, he, hy, hr5, hk5, hrel⟩; subst he; (have HG5 := Lib.hid hg); (have HY5 := Lib.hid hy); (have HR5 := Lib.hid hr5); (have HK5 := Lib.hid hk5); (have HREL := Lib.hid hrel); obtain ⟨⟨b0, b1, b2, b3⟩, y0, y1, y2, y3⟩ := (HS3.out.drew.call hr5 hg).all; clear hg hy hr5 hk5 hrel)
          | (go_at_call 92; refine (two_rf _ _ _ _ _ _ _ _ _ _).mono ?_; rintro e w6 ⟨g2, he, hg2, hg3, q1, q2, hb6⟩; subst he; (have HG6 := Lib.hid hg2); (have HG7 := Lib.hid hg3); (have HQ1 := Lib.hid q1); (have HQ2 := Lib.hid q2); (have HB6 := Lib.hid hb6); obtain ⟨⟨d0, d1, d2, d3⟩, v0, v1, v2, v3⟩ := (((HS3.out.drew.call HR5.out HG5.out)).below hb6).all; clear hb6 hg2 hg3 q1 q2))
        all_goals
          have HS6 := Lib.hid (EfSt.two (op := 4) HS3.out.drew HR5.out HG5.out HY5.out HB6.out ⟨HG6.out, HG7.out⟩ HQ1.out HQ2.out)
          have hg6 := ((HS3.out.drew.call HR5.out HG5.out).below HB6.out).2.2.2.2.1
          rw [set4_row hg6 rfl]
          have HP6 := Lib.hid (rfLeft_of (len := xs.length) HS6.out.1)
          clear hg6
          go_wp2_with fail
          refine ⟨⟨Saw.two 4 x y, _, _, s2, HS6.out, HK5.out, (HNX.out _ _ HREL.out).1⟩, ?_⟩
          have h8 := (HNX.out _ _ HREL.out).2
          have h9 : rfLeft rb xs.length wr = xs.length - k2 := by rw [HPOS.out, if_pos H0.out, HK2.out]
          have h10 := HK2.out
          rw [h9]
          refine Nat.lt_of_le_of_lt (Nat.le_of_eq HP6.out) ?_
          split
          · rename_i h11; have := h8 h11; omega
          · omega

end Go.Proofs.YtkalkglllgebkaaDoor

namespace Saw
/-- What reading the first operand leaves to be done. -/
def CmRel (xs : List Lx) (n : Nat) (r : RR) (x : Ex) (s : Rs) : Prop :=
  (s.er ≠ 0 ∧ r = .bad s.er s.off) ∨ (s.er = 0 ∧ s.off = 0 ∧ (if (lxAt xs s.k).kind = 3 ∧ isCmp (lxAt xs s.k).text = true then andThen (rd xs n .sum (s.k + 1)) (fun b k2 => some (.ok (cmpE (lxAt xs s.k).text x b) k2)) else some (.ok x s.k)) = some r)
theorem cm_start {xs : List Lx} {n k : Nat} {r : RR} (h : rd xs (n + 1) .comp k = some r) : ∃ r1, rd xs n .sum k = some r1 ∧ ∀ x s, RfRel r1 x s → CmRel xs n r x s := by
  rw [rd] at h
  rcases andThen_some h with ⟨er, off, h1, rfl⟩ | ⟨e1, k1, h1, h2⟩
  · refine ⟨_, h1, fun y s hs => .inl ?_⟩
    obtain ⟨a, rfl, rfl⟩ := hs
    exact ⟨a, rfl⟩
  · refine ⟨_, h1, fun y s hs => .inr ?_⟩
    obtain ⟨rfl, rfl⟩ := hs
    exact ⟨rfl, rfl, h2⟩
theorem cm_end {xs : List Lx} {n : Nat} {r : RR} {x : Ex} {s : Rs} (h : CmRel xs n r x s) (ht : s.er = 0 → ¬ ((lxAt xs s.k).kind = 3 ∧ isCmp (lxAt xs s.k).text = true)) : RfRel r x s := by
  obtain ⟨k, er, off⟩ := s
  rcases h with ⟨a1, rfl⟩ | ⟨a1, a2, a3⟩
  · exact ⟨a1, rfl, rfl⟩
  · simp only at a1 a2 a3 ht
    rw [if_neg (ht a1)] at a3
    injection a3 with a3
    subst a3 a1 a2
    exact ⟨rfl, rfl⟩
theorem cm_more {xs : List Lx} {n : Nat} {r : RR} {x : Ex} {s : Rs} (h : CmRel xs n r x s) (h0 : s.er = 0) (hk : (lxAt xs s.k).kind = 3) (hc : isCmp (lxAt xs s.k).text = true) :
    s.off = 0 ∧ ∃ r2, rd xs n .sum (s.k + 1) = some r2 ∧ ∀ b s', RfRel r2 b s' → RfRel r (cmpE (lxAt xs s.k).text x b) s' := by
  obtain ⟨k, er, off⟩ := s
  rcases h with ⟨a1, _⟩ | ⟨a1, a2, a3⟩
  · exact absurd h0 a1
  · simp only at a1 a2 a3 hk hc ⊢
    rw [if_pos ⟨hk, hc⟩] at a3
    refine ⟨a2, ?_⟩
    rcases andThen_some a3 with ⟨er, off, h1, rfl⟩ | ⟨e1, k1, h1, h2⟩
    · exact ⟨_, h1, fun b s' hs => hs⟩
    · refine ⟨_, h1, fun b s' hs => ?_⟩
      obtain ⟨rfl, rfl⟩ := hs
      injection h2 with h2
      subst h2
      exact ⟨rfl, rfl⟩
theorem ng_start {xs : List Lx} {n k : Nat} {r : RR} (h : rd xs (n + 1) .neg k = some r) (hw : isWd xs k notW = true) : ∃ r1, rd xs n .neg (k + 1) = some r1 ∧ ∀ x s, RfRel r1 x s → RfRel r (one 9 x) s := by
  rw [rd, if_pos hw] at h
  rcases andThen_some h with ⟨er, off, h1, rfl⟩ | ⟨e1, k1, h1, h2⟩
  · exact ⟨_, h1, fun y s hs => hs⟩
  · refine ⟨_, h1, fun y s hs => ?_⟩
    obtain ⟨rfl, rfl⟩ := hs
    injection h2 with h2
    subst h2
    exact ⟨rfl, rfl⟩
theorem ng_comp {xs : List Lx} {n k : Nat} {r : RR} (h : rd xs (n + 1) .neg k = some r) (hw : isWd xs k notW = false) : rd xs n .comp k = some r := by
  rw [rd, if_neg (by rw [hw]; decide)] at h
  exact h
end Saw
namespace Go.Proofs.YtkalkglllgebkaaDoor
open Go.RowKit Saw

/-- The slice of two arguments, behind the call of two. -/
theorem two_slice_rf {W W4 : World} {x y : Ex} {sv tv : Value} {lo g2 : Nat} (hx : RdFo W (Iv lo W.heap.size) sv x.kids) (hy : RdFo W (Iv lo W.heap.size) tv y.kids) (hlo : lo ≤ W.heap.size) (h4 : Below W.heap.size W W4)
    (hg : W.heap.size ≤ g2 ∧ g2 < W4.heap.size) (q1 : W4.rangeAt g2 0 (exCells x sv)) (q2 : W4.rangeAt g2 4 (exCells y tv)) (op : Int) : RdFo W4 (Iv lo W4.heap.size) (.slice (some ⟨g2, 0, none⟩) 2 2) (Saw.two op x y).kids := by
  have hs4 := h4.size
  exact RdFo.two_ q1 q2 ⟨by omega, hg.2⟩ ((hx.below h4 (fun b hb => hb.2)).more fun b hb => ⟨hb.1, by have := hb.2; omega⟩) ((hy.below h4 (fun b hb => hb.2)).more fun b hb => ⟨hb.1, by have := hb.2; omega⟩) (by omega)

set_option maxRecDepth 100000 in
set_option maxHeartbeats 1000000 in
theorem neg_rf {xs : List Lx} (hX : XrOk xs) {n : Nat} (IH : ∀ m, m ≤ n → RfCalls xs m) (k : Nat) (r : RR) (h : rd xs (n + 1) .neg k = some r) (hkx : k < xs.length)
    (w : World) (rb : Nat) (lv : Value) (hr : IsRf w rb lv ⟨k, 0, 0⟩) (hl : RdXs w rb lv xs) : Calls Tryd.prog 104 #[.pointer (some ⟨rb, 0, none⟩)] w (RfPost w rb lv xs r) := by
  have hxm := hX.1.2.1
  have HI := Lib.hid (IH n (Nat.le_refl _))
  have HS := Lib.hid (NfSt.first_ (z := #[.int .i64 0, .int .i64 0, .string ⟨#[]⟩, .slice none 0 0]) rfl hr)
  have HL := Lib.hid hl
  have HE := Lib.hid hX.1.1
  have HH := Lib.hid h
  have HAN := Lib.hid (fun k => an_word hX.2 k (t := notW) (by rfl))
  clear IH hr hl hX h
  go_enter Tryd.func104, Tryd.ntmps104
  go_wp2_with fail
  refine (is_rf _ rb lv ⟨k, 0, 0⟩ xs _ HS.out.1 (HS.out.rdx HL.out) hkx hxm).mono ?_
  rintro e w2 ⟨he, hb⟩
  have HS2 := Lib.hid (HS.out.below hb)
  clear hb HS
  obtain ⟨q, hq⟩ : ∃ q, isWd xs k notW = q := ⟨_, rfl⟩
  rw [show (decide ((⟨k, 0, 0⟩ : Rs).er = 0) && isAn xs (⟨k, 0, 0⟩ : Rs).k (bts ⟨#[110, 111, 116]⟩)) = q from by rw [← hq, ← HAN.out]; rfl] at he
  subst he
  cases q with
  | true =>
    have hk1 := isWd_in HE.out hkx hq
    obtain ⟨c0, c1', c2', c3', f1, f2, f3, hlt1⟩ := HS2.out.1.cells
    obtain ⟨r1, h1, hnx⟩ := ng_start HH.out hq
    have H1 := Lib.hid h1
    have HNX := Lib.hid hnx
    clear h1 hnx hq
    have hmw : IntKind.i64.wrap ((k : Int) + 1) = ((k + 1 : Nat) : Int) := by rw [IntKind.wrap_i64] <;> omega
    go_wp2_with fail
    have hS3 := HS2.out.pos (k + 1)
    obtain ⟨W3, hW3⟩ : ∃ W, w2.setCell ⟨rb, 1, none⟩ (.int .i64 ((k : Int) + 1)) = W := ⟨_, rfl⟩
    rw [show w2.setCell ⟨rb, 1, none⟩ (.int .i64 ((k + 1 : Nat) : Int)) = W3 from hW3] at hS3
    rw [hW3]
    have HS3 := Lib.hid hS3
    clear hS3 hW3 HS2 c0 c1' c2' c3' f1 f2 f3 hlt1 hmw
    refine (HI.out .neg _ rfl _ _ H1.out hk1 _ rb lv HS3.out.1 (HS3.out.rdx HL.out)).mono ?_
    rintro e w5 ⟨hg, y, A2, c2, s2, he, hy, hr5, hk5, hrel⟩
    subst he
    have HREL := Lib.hid (HNX.out _ _ hrel)
    have HS5 := Lib.hid (HS3.out.call hr5 hg)
    have HY := Lib.hid hy
    have hs5 := hg.size
    have HLO := Lib.hid (show w.heap.size < W3.heap.size from HS3.out.2.2.2.1)
    have HS6 := Lib.hid (HS5.out.alloc (.cells #[.int .i64 y.op, .int .i64 y.n, .string (str y.name), .slice A2 y.kids.toList.length c2] 24))
    have HX := Lib.hid (one_slice HY.out hs5 24 (Below.refl _ _) 9)
    obtain ⟨cs, hcs, hres⟩ := HS6.out.2.2.2.2
    have HCS := Lib.hid hcs
    have HRES := Lib.hid hres
    clear hg hy hr5 hrel hcs hres
    go_wp2_with (first
      | ((with_reducible refine ex_put w.heap.size (Saw.one 9 y) (.slice (some ⟨w5.heap.size, 0, none⟩) 1 1) rfl ?hx ?hy HRES.out HCS ?_); (case hx => rfl); (case hy => rfl)))
    obtain ⟨p1, p2, p3, p4⟩ := HS6.out.leave (x := Saw.one 9 y) HX.out (fun b hb => ⟨Nat.lt_of_lt_of_le HLO.out hb.1, hb.2⟩)
    exact bodyPost_ret (ex_res Tryd.results104 _ _ w.heap.size rfl p1) rfl ⟨p2, Saw.one 9 y, _, _, s2, rfl, p3, p4, hk5, HREL.out⟩
  | false =>
    have H1 := Lib.hid (ng_comp HH.out hq)
    clear hq
    go_wp2_with fail
    refine (HI.out .comp _ rfl _ _ H1.out hkx _ rb lv HS2.out.1 (HS2.out.rdx HL.out)).mono ?_
    rintro e w5 ⟨hg, y, A2, c2, s2, he, hy, hr5, hk5, hrel⟩
    subst he
    have HREL := Lib.hid hrel
    have HS5 := Lib.hid (HS2.out.call hr5 hg)
    have HY := Lib.hid hy
    have HLO := Lib.hid (show w.heap.size < w2.heap.size from HS2.out.2.2.2.1)
    obtain ⟨cs, hcs, hres⟩ := HS5.out.2.2.2.2
    have HCS := Lib.hid hcs
    have HRES := Lib.hid hres
    clear hg hy hr5 hrel hcs hres
    go_wp2_with (first
      | ((with_reducible refine ex_put w.heap.size y (.slice A2 y.kids.toList.length c2) rfl ?hx ?hy HRES.out HCS ?_); (case hx => rfl); (case hy => rfl)))
    obtain ⟨p1, p2, p3, p4⟩ := HS5.out.leave HY.out (fun b hb => ⟨Nat.lt_of_lt_of_le HLO.out hb.1, hb.2⟩)
    exact bodyPost_ret (ex_res Tryd.results104 _ _ w.heap.size rfl p1) rfl ⟨p2, y, _, _, s2, rfl, p3, p4, hk5, HREL.out⟩

set_option maxRecDepth 100000 in
set_option maxHeartbeats 4000000 in
theorem comp_rf {xs : List Lx} (hX : XrOk xs) {n : Nat} (IH : ∀ m, m ≤ n → RfCalls xs m) (k : Nat) (r : RR) (h : rd xs (n + 1) .comp k = some r) (hkx : k < xs.length)
    (w : World) (rb : Nat) (lv : Value) (hr : IsRf w rb lv ⟨k, 0, 0⟩) (hl : RdXs w rb lv xs) : Calls Tryd.prog 114 #[.pointer (some ⟨rb, 0, none⟩)] w (RfPost w rb lv xs r) := by
  have hxm := hX.1.2.1
  have HI := Lib.hid (IH n (Nat.le_refl _))
  have HS := Lib.hid (NfSt.first_ (z := #[.int .i64 0, .int .i64 0, .string ⟨#[]⟩, .slice none 0 0]) rfl hr)
  have HL := Lib.hid hl
  have HE := Lib.hid hX.1.1
  obtain ⟨r1, h1, hnx⟩ := cm_start h
  have H1 := Lib.hid h1
  have HNX := Lib.hid hnx
  clear IH hr hl hX h h1 hnx
  go_enter Tryd.func114, Tryd.ntmps114
  go_wp2_with fail
  refine (HI.out .sum _ rfl _ _ H1.out hkx _ rb lv HS.out.1 (HS.out.rdx HL.out)).mono ?_
  rintro e w1 ⟨hg, x, A1, c1, s, he, hy, hr1, hk, hrel⟩
  subst he
  have HCM := Lib.hid (HNX.out _ _ hrel)
  have hS1 := EfSt.later_ HS.out hr1 hg hy
  clear hg hy hr1 hrel HS H1 HNX
  go_upto_region 2 with fail
  obtain ⟨g, hgq⟩ : ∃ g, w1.heap.size = g := ⟨_, rfl⟩
  obtain ⟨W1, hW1⟩ : ∃ W, w1.alloc (.cells #[.int .i64 x.op, .int .i64 x.n, .string (str x.name), .slice A1 x.kids.toList.length c1] 24) = W := ⟨_, rfl⟩
  rw [hgq, show w1.alloc (.cells (exArr x (.slice A1 x.kids.toList.length c1)) 24) = W1 from hW1] at hS1
  rw [hgq, hW1]
  have HS1 := Lib.hid hS1
  have HS2 := Lib.hid hS1.drew
  clear hS1 hW1 hgq
  obtain ⟨c0, c1', c2', c3', f1, f2, f3, hlt1⟩ := HS1.out.1.cells
  obtain ⟨y, hye⟩ : ∃ y, lxAt xs s.k = y := ⟨_, rfl⟩
  obtain ⟨b, off, cc, hlv, hcc, hbs, hml, d0, d1, d2, d3⟩ := lx_reads (HS1.out.rdx HL.out) hk hye
  subst hlv
  have hbs' : b < W1.heap.size := by omega
  have HY := Lib.hid hye
  clear hye
  obtain ⟨cs, hcs, hres⟩ := HS2.out.2.2.2.1
  have HG2 := Lib.hid HS2.out.at_g
  have HCS := Lib.hid hcs
  have HRES := Lib.hid hres
  clear hcs hres
  by_cases h0 : s.er = 0
  · have h0b : (s.er != 0) = false := by rw [bne_eq_false_iff_eq]; exact h0
    by_cases hk3 : y.kind = 3
    · have hk3b : (y.kind != 3) = false := by rw [bne_eq_false_iff_eq]; exact hk3
      have hTL : (str y.text).toList = y.text := by rw [toList_bts, bts_str]
      have HTL := Lib.hid hTL
      have H0 := Lib.hid h0
      have HK3 := Lib.hid hk3
      clear hTL h0 hk3
      go_region
      go_wp2_with fail
      go_region
      have HSD := Lib.hid HS2.out.drew
      clear HS1 HS2 HG2 HRES HCS
      obtain ⟨W2, hW2⟩ : ∃ W, W1.drew.drew = W := ⟨_, rfl⟩
      rw [hW2] at HSD ⊢
      clear c0 c1' c2' c3' f1 f2 f3 d0 d1 d2 d3 hW2 hbs'
      by_cases hT0 : y.text = [61]
      · have t0 : ((str y.text).toList == [61]) = true := by rw [HTL.out, hT0]; rfl
        have t1 : ((str y.text).toList == [33, 61]) = false := by rw [HTL.out, hT0]; rfl
        have t2 : ((str y.text).toList == [60]) = false := by rw [HTL.out, hT0]; rfl
        have t3 : ((str y.text).toList == [60, 61]) = false := by rw [HTL.out, hT0]; rfl
        have t4 : ((str y.text).toList == [62]) = false := by rw [HTL.out, hT0]; rfl
        have t5 : ((str y.text).toList == [62, 61]) = false := by rw [HTL.out, hT0]; rfl
        obtain ⟨hoff, r2, h2, hnx⟩ := cm_more HCM.out H0.out (by rw [HY.out]; exact HK3.out) (by rw [HY.out, hT0]; rfl)
        have hce : ∀ b, cmpE (lxAt xs s.k).text x b = Saw.two 6 x b := fun b => by rw [HY.out, hT0]; rfl
        have HNX := Lib.hid (fun b s' (hs : RfRel r2 b s') => (hce b) ▸ hnx b s' hs)
        have H2 := Lib.hid h2
        have hs0 : s = ⟨s.k, 0, 0⟩ := by have h0 := H0.out; obtain ⟨k2, er, off⟩ := s; simp only at h0 hoff; subst h0; subst hoff; rfl
        have hk4 : s.k + 1 < xs.length := lxEnds_next HE.out hk (by rw [HY.out, HK3.out]; decide)
        clear h2 hnx hoff hce hT0
        rw [hs0] at HSD
        obtain ⟨k1, hk1⟩ : ∃ k1, s.k = k1 := ⟨_, rfl⟩
        rw [hk1] at HSD hk4 H2
        clear hs0 hk1 HCM HY HK3 hk HTL
        obtain ⟨c0, c1', c2', c3', f1, f2, f3, hlt1⟩ := HSD.out.1.cells
        have hmw : IntKind.i64.wrap ((k1 : Int) + 1) = ((k1 + 1 : Nat) : Int) := by rw [IntKind.wrap_i64] <;> omega
        go_upto_region 14 with fail
        have hS3 := HSD.out.pos (k1 + 1)
        obtain ⟨W3, hW3⟩ : ∃ W, W2.setCell ⟨rb, 1, none⟩ (.int .i64 ((k1 : Int) + 1)) = W := ⟨_, rfl⟩
        rw [show W2.setCell ⟨rb, 1, none⟩ (.int .i64 ((k1 + 1 : Nat) : Int)) = W3 from hW3] at hS3
        rw [hW3]
        have HS3 := Lib.hid hS3
        clear hS3 hW3 HSD c0 c1' c2' c3' f1 f2 f3 hlt1 hmw
        go_wp2_with fail
        refine (HI.out .sum _ rfl _ _ H2.out hk4 _ rb _ HS3.out.1 (HS3.out.rdx HL.out)).mono ?_
        rintro e w4 ⟨hg, z, A2, c2, s2, he, hz, hr4, hk5, hrel⟩
        subst he
        have HREL := Lib.hid (HNX.out _ _ hrel)
        have hS5 := (HS3.out.call hr4 hg).below ((Below.refl _ _).alloc (Nat.le_refl _) (.cells (exArr z (.slice A2 z.kids.toList.length c2)) 24))
        have hE5 := heap_alloc_last w4 (.cells (exArr z (.slice A2 z.kids.toList.length c2)) 24)
        have hZ5 : RdFo (w4.alloc (.cells (exArr z (.slice A2 z.kids.toList.length c2)) 24)) (Iv (w.heap.size + 1) (w4.alloc (.cells (exArr z (.slice A2 z.kids.toList.length c2)) 24)).heap.size) (.slice A2 z.kids.toList.length c2) z.kids := (hz.alloc (fun b hb => hb.2) _).more (fun b hb => ⟨by have := hb.1; have := HS3.out.lt; omega, by have := hb.2; rw [World.size_alloc]; omega⟩)
        clear hg hz hr4 hrel H2 HNX
        go_upto_region 15 with fail
        obtain ⟨g5, hg5⟩ : ∃ g, w4.heap.size = g := ⟨_, rfl⟩
        obtain ⟨W5, hW5⟩ : ∃ W, w4.alloc (.cells #[.int .i64 z.op, .int .i64 z.n, .string (str z.name), .slice A2 z.kids.toList.length c2] 24) = W := ⟨_, rfl⟩
        rw [show w4.alloc (.cells (exArr z (.slice A2 z.kids.toList.length c2)) 24) = W5 from hW5] at hS5 hE5 hZ5
        rw [hg5] at hE5
        rw [hg5, hW5]
        have HS5 := Lib.hid hS5
        have HG := Lib.hid HS5.out.at_g
        have HG5 := Lib.hid (show W5.rangeAt g5 0 (exCells z (.slice A2 z.kids.toList.length c2)) from rangeAt_block hE5)
        have HZT := Lib.hid hZ5
        have HXT := Lib.hid (HS5.out.2.2.2.2.2.1.more (fun b hb => hb.1))
        have HLO := Lib.hid (show w.heap.size + 1 ≤ W5.heap.size by have := HS5.out.lt; omega)
        clear hS5 hE5 hZ5 hW5 hg5 HS3
        go_wp2_with (first
          | ((with_reducible refine ex_load g 0 x (.slice A1 x.kids.toList.length c1) ?hx HG.out ?_); (case hx => rfl))
          | ((with_reducible refine ex_load g5 0 z (.slice A2 z.kids.toList.length c2) ?hx HG5.out ?_); (case hx => rfl)))
        refine (two_rf _ _ x z _ _ _ _ _ _).mono ?_
        rintro e w6 ⟨g2, he, hg2, hg3, q1, q2, hb6⟩
        subst he
        have HS6 := Lib.hid (HS5.out.below hb6)
        have HT6 := Lib.hid (two_slice_rf HXT.out HZT.out HLO.out hb6 ⟨hg2, hg3⟩ q1 q2 6)
        clear hb6 hg2 hg3 q1 q2
        obtain ⟨cs, hcs, hres⟩ := HS6.out.2.2.2.1
        have HCS := Lib.hid hcs
        have HRES := Lib.hid hres
        clear hcs hres
        go_wp2_with (first
          | ((with_reducible refine ex_put w.heap.size (Saw.two 6 x z) (.slice (some ⟨g2, 0, none⟩) 2 2) rfl ?hx ?hy HRES.out HCS ?_); (case hx => rfl); (case hy => rfl)))
        obtain ⟨p1, p2, p3, p4⟩ := HS6.out.toN.leave (x := Saw.two 6 x z) HT6.out (fun b hb => ⟨hb.1, hb.2⟩)
        exact bodyPost_ret (ex_res Tryd.results114 _ _ w.heap.size rfl p1) rfl ⟨p2, Saw.two 6 x z, _, _, s2, rfl, p3, p4, hk5, HREL.out⟩
      by_cases hT1 : y.text = [33, 61]
      · have t0 : ((str y.text).toList == [61]) = false := by rw [HTL.out, hT1]; rfl
        have t1 : ((str y.text).toList == [33, 61]) = true := by rw [HTL.out, hT1]; rfl
        have t2 : ((str y.text).toList == [60]) = false := by rw [HTL.out, hT1]; rfl
        have t3 : ((str y.text).toList == [60, 61]) = false := by rw [HTL.out, hT1]; rfl
        have t4 : ((str y.text).toList == [62]) = false := by rw [HTL.out, hT1]; rfl
        have t5 : ((str y.text).toList == [62, 61]) = false := by rw [HTL.out, hT1]; rfl
        obtain ⟨hoff, r2, h2, hnx⟩ := cm_more HCM.out H0.out (by rw [HY.out]; exact HK3.out) (by rw [HY.out, hT1]; rfl)
        have hce : ∀ b, cmpE (lxAt xs s.k).text x b = Saw.one 9 (Saw.two 6 x b) := fun b => by rw [HY.out, hT1]; rfl
        have HNX := Lib.hid (fun b s' (hs : RfRel r2 b s') => (hce b) ▸ hnx b s' hs)
        have H2 := Lib.hid h2
        have hs0 : s = ⟨s.k, 0, 0⟩ := by have h0 := H0.out; obtain ⟨k2, er, off⟩ := s; simp only at h0 hoff; subst h0; subst hoff; rfl
        have hk4 : s.k + 1 < xs.length := lxEnds_next HE.out hk (by rw [HY.out, HK3.out]; decide)
        clear h2 hnx hoff hce hT1
        rw [hs0] at HSD
        obtain ⟨k1, hk1⟩ : ∃ k1, s.k = k1 := ⟨_, rfl⟩
        rw [hk1] at HSD hk4 H2
        clear hs0 hk1 HCM HY HK3 hk HTL
        obtain ⟨c0, c1', c2', c3', f1, f2, f3, hlt1⟩ := HSD.out.1.cells
        have hmw : IntKind.i64.wrap ((k1 : Int) + 1) = ((k1 + 1 : Nat) : Int) := by rw [IntKind.wrap_i64] <;> omega
        go_upto_region 14 with fail
        have hS3 := HSD.out.pos (k1 + 1)
        obtain ⟨W3, hW3⟩ : ∃ W, W2.setCell ⟨rb, 1, none⟩ (.int .i64 ((k1 : Int) + 1)) = W := ⟨_, rfl⟩
        rw [show W2.setCell ⟨rb, 1, none⟩ (.int .i64 ((k1 + 1 : Nat) : Int)) = W3 from hW3] at hS3
        rw [hW3]
        have HS3 := Lib.hid hS3
        clear hS3 hW3 HSD c0 c1' c2' c3' f1 f2 f3 hlt1 hmw
        go_wp2_with fail
        refine (HI.out .sum _ rfl _ _ H2.out hk4 _ rb _ HS3.out.1 (HS3.out.rdx HL.out)).mono ?_
        rintro e w4 ⟨hg, z, A2, c2, s2, he, hz, hr4, hk5, hrel⟩
        subst he
        have HREL := Lib.hid (HNX.out _ _ hrel)
        have hS5 := (HS3.out.call hr4 hg).below ((Below.refl _ _).alloc (Nat.le_refl _) (.cells (exArr z (.slice A2 z.kids.toList.length c2)) 24))
        have hE5 := heap_alloc_last w4 (.cells (exArr z (.slice A2 z.kids.toList.length c2)) 24)
        have hZ5 : RdFo (w4.alloc (.cells (exArr z (.slice A2 z.kids.toList.length c2)) 24)) (Iv (w.heap.size + 1) (w4.alloc (.cells (exArr z (.slice A2 z.kids.toList.length c2)) 24)).heap.size) (.slice A2 z.kids.toList.length c2) z.kids := (hz.alloc (fun b hb => hb.2) _).more (fun b hb => ⟨by have := hb.1; have := HS3.out.lt; omega, by have := hb.2; rw [World.size_alloc]; omega⟩)
        clear hg hz hr4 hrel H2 HNX
        go_upto_region 15 with fail
        obtain ⟨g5, hg5⟩ : ∃ g, w4.heap.size = g := ⟨_, rfl⟩
        obtain ⟨W5, hW5⟩ : ∃ W, w4.alloc (.cells #[.int .i64 z.op, .int .i64 z.n, .string (str z.name), .slice A2 z.kids.toList.length c2] 24) = W := ⟨_, rfl⟩
        rw [show w4.alloc (.cells (exArr z (.slice A2 z.kids.toList.length c2)) 24) = W5 from hW5] at hS5 hE5 hZ5
        rw [hg5] at hE5
        rw [hg5, hW5]
        have HS5 := Lib.hid hS5
        have HG := Lib.hid HS5.out.at_g
        have HG5 := Lib.hid (show W5.rangeAt g5 0 (exCells z (.slice A2 z.kids.toList.length c2)) from rangeAt_block hE5)
        have HZT := Lib.hid hZ5
        have HXT := Lib.hid (HS5.out.2.2.2.2.2.1.more (fun b hb => hb.1))
        have HLO := Lib.hid (show w.heap.size + 1 ≤ W5.heap.size by have := HS5.out.lt; omega)
        clear hS5 hE5 hZ5 hW5 hg5 HS3
        go_wp2_with (first
          | ((with_reducible refine ex_load g 0 x (.slice A1 x.kids.toList.length c1) ?hx HG.out ?_); (case hx => rfl))
          | ((with_reducible refine ex_load g5 0 z (.slice A2 z.kids.toList.length c2) ?hx HG5.out ?_); (case hx => rfl)))
        refine (two_rf _ _ x z _ _ _ _ _ _).mono ?_
        rintro e w6 ⟨g2, he, hg2, hg3, q1, q2, hb6⟩
        subst he
        have HS6 := Lib.hid (HS5.out.below hb6)
        have HT6 := Lib.hid (two_slice_rf HXT.out HZT.out HLO.out hb6 ⟨hg2, hg3⟩ q1 q2 6)
        have HLO6 := Lib.hid (show w.heap.size + 1 ≤ w6.heap.size by have := HLO.out; have := hb6.size; omega)
        have HS7 := Lib.hid (HS6.out.below ((Below.refl _ _).alloc (Nat.le_refl _) (.cells #[.int .i64 6, .int .i64 0, .string (str []), .slice (some ⟨g2, 0, none⟩) 2 2] 24)))
        have HT7 := Lib.hid (one_slice (y := Saw.two 6 x z) HT6.out HLO6.out 24 (Below.refl _ _) 9)
        clear hb6 hg2 hg3 q1 q2
        obtain ⟨cs, hcs, hres⟩ := HS7.out.2.2.2.1
        have HCS := Lib.hid hcs
        have HRES := Lib.hid hres
        clear hcs hres
        go_wp2_with (first
          | ((with_reducible refine ex_put w.heap.size (Saw.one 9 (Saw.two 6 x z)) (.slice (some ⟨w6.heap.size, 0, none⟩) 1 1) rfl ?hx ?hy HRES.out HCS ?_); (case hx => rfl); (case hy => rfl)))
        obtain ⟨p1, p2, p3, p4⟩ := HS7.out.toN.leave (x := Saw.one 9 (Saw.two 6 x z)) HT7.out (fun b hb => ⟨hb.1, hb.2⟩)
        exact bodyPost_ret (ex_res Tryd.results114 _ _ w.heap.size rfl p1) rfl ⟨p2, Saw.one 9 (Saw.two 6 x z), _, _, s2, rfl, p3, p4, hk5, HREL.out⟩
      by_cases hT2 : y.text = [60]
      · have t0 : ((str y.text).toList == [61]) = false := by rw [HTL.out, hT2]; rfl
        have t1 : ((str y.text).toList == [33, 61]) = false := by rw [HTL.out, hT2]; rfl
        have t2 : ((str y.text).toList == [60]) = true := by rw [HTL.out, hT2]; rfl
        have t3 : ((str y.text).toList == [60, 61]) = false := by rw [HTL.out, hT2]; rfl
        have t4 : ((str y.text).toList == [62]) = false := by rw [HTL.out, hT2]; rfl
        have t5 : ((str y.text).toList == [62, 61]) = false := by rw [HTL.out, hT2]; rfl
        obtain ⟨hoff, r2, h2, hnx⟩ := cm_more HCM.out H0.out (by rw [HY.out]; exact HK3.out) (by rw [HY.out, hT2]; rfl)
        have hce : ∀ b, cmpE (lxAt xs s.k).text x b = Saw.two 7 x b := fun b => by rw [HY.out, hT2]; rfl
        have HNX := Lib.hid (fun b s' (hs : RfRel r2 b s') => (hce b) ▸ hnx b s' hs)
        have H2 := Lib.hid h2
        have hs0 : s = ⟨s.k, 0, 0⟩ := by have h0 := H0.out; obtain ⟨k2, er, off⟩ := s; simp only at h0 hoff; subst h0; subst hoff; rfl
        have hk4 : s.k + 1 < xs.length := lxEnds_next HE.out hk (by rw [HY.out, HK3.out]; decide)
        clear h2 hnx hoff hce hT2
        rw [hs0] at HSD
        obtain ⟨k1, hk1⟩ : ∃ k1, s.k = k1 := ⟨_, rfl⟩
        rw [hk1] at HSD hk4 H2
        clear hs0 hk1 HCM HY HK3 hk HTL
        obtain ⟨c0, c1', c2', c3', f1, f2, f3, hlt1⟩ := HSD.out.1.cells
        have hmw : IntKind.i64.wrap ((k1 : Int) + 1) = ((k1 + 1 : Nat) : Int) := by rw [IntKind.wrap_i64] <;> omega
        go_upto_region 14 with fail
        have hS3 := HSD.out.pos (k1 + 1)
        obtain ⟨W3, hW3⟩ : ∃ W, W2.setCell ⟨rb, 1, none⟩ (.int .i64 ((k1 : Int) + 1)) = W := ⟨_, rfl⟩
        rw [show W2.setCell ⟨rb, 1, none⟩ (.int .i64 ((k1 + 1 : Nat) : Int)) = W3 from hW3] at hS3
        rw [hW3]
        have HS3 := Lib.hid hS3
        clear hS3 hW3 HSD c0 c1' c2' c3' f1 f2 f3 hlt1 hmw
        go_wp2_with fail
        refine (HI.out .sum _ rfl _ _ H2.out hk4 _ rb _ HS3.out.1 (HS3.out.rdx HL.out)).mono ?_
        rintro e w4 ⟨hg, z, A2, c2, s2, he, hz, hr4, hk5, hrel⟩
        subst he
        have HREL := Lib.hid (HNX.out _ _ hrel)
        have hS5 := (HS3.out.call hr4 hg).below ((Below.refl _ _).alloc (Nat.le_refl _) (.cells (exArr z (.slice A2 z.kids.toList.length c2)) 24))
        have hE5 := heap_alloc_last w4 (.cells (exArr z (.slice A2 z.kids.toList.length c2)) 24)
        have hZ5 : RdFo (w4.alloc (.cells (exArr z (.slice A2 z.kids.toList.length c2)) 24)) (Iv (w.heap.size + 1) (w4.alloc (.cells (exArr z (.slice A2 z.kids.toList.length c2)) 24)).heap.size) (.slice A2 z.kids.toList.length c2) z.kids := (hz.alloc (fun b hb => hb.2) _).more (fun b hb => ⟨by have := hb.1; have := HS3.out.lt; omega, by have := hb.2; rw [World.size_alloc]; omega⟩)
        clear hg hz hr4 hrel H2 HNX
        go_upto_region 15 with fail
        obtain ⟨g5, hg5⟩ : ∃ g, w4.heap.size = g := ⟨_, rfl⟩
        obtain ⟨W5, hW5⟩ : ∃ W, w4.alloc (.cells #[.int .i64 z.op, .int .i64 z.n, .string (str z.name), .slice A2 z.kids.toList.length c2] 24) = W := ⟨_, rfl⟩
        rw [show w4.alloc (.cells (exArr z (.slice A2 z.kids.toList.length c2)) 24) = W5 from hW5] at hS5 hE5 hZ5
        rw [hg5] at hE5
        rw [hg5, hW5]
        have HS5 := Lib.hid hS5
        have HG := Lib.hid HS5.out.at_g
        have HG5 := Lib.hid (show W5.rangeAt g5 0 (exCells z (.slice A2 z.kids.toList.length c2)) from rangeAt_block hE5)
        have HZT := Lib.hid hZ5
        have HXT := Lib.hid (HS5.out.2.2.2.2.2.1.more (fun b hb => hb.1))
        have HLO := Lib.hid (show w.heap.size + 1 ≤ W5.heap.size by have := HS5.out.lt; omega)
        clear hS5 hE5 hZ5 hW5 hg5 HS3
        go_wp2_with (first
          | ((with_reducible refine ex_load g 0 x (.slice A1 x.kids.toList.length c1) ?hx HG.out ?_); (case hx => rfl))
          | ((with_reducible refine ex_load g5 0 z (.slice A2 z.kids.toList.length c2) ?hx HG5.out ?_); (case hx => rfl)))
        refine (two_rf _ _ x z _ _ _ _ _ _).mono ?_
        rintro e w6 ⟨g2, he, hg2, hg3, q1, q2, hb6⟩
        subst he
        have HS6 := Lib.hid (HS5.out.below hb6)
        have HT6 := Lib.hid (two_slice_rf HXT.out HZT.out HLO.out hb6 ⟨hg2, hg3⟩ q1 q2 7)
        clear hb6 hg2 hg3 q1 q2
        obtain ⟨cs, hcs, hres⟩ := HS6.out.2.2.2.1
        have HCS := Lib.hid hcs
        have HRES := Lib.hid hres
        clear hcs hres
        go_wp2_with (first
          | ((with_reducible refine ex_put w.heap.size (Saw.two 7 x z) (.slice (some ⟨g2, 0, none⟩) 2 2) rfl ?hx ?hy HRES.out HCS ?_); (case hx => rfl); (case hy => rfl)))
        obtain ⟨p1, p2, p3, p4⟩ := HS6.out.toN.leave (x := Saw.two 7 x z) HT6.out (fun b hb => ⟨hb.1, hb.2⟩)
        exact bodyPost_ret (ex_res Tryd.results114 _ _ w.heap.size rfl p1) rfl ⟨p2, Saw.two 7 x z, _, _, s2, rfl, p3, p4, hk5, HREL.out⟩
      by_cases hT3 : y.text = [60, 61]
      · have t0 : ((str y.text).toList == [61]) = false := by rw [HTL.out, hT3]; rfl
        have t1 : ((str y.text).toList == [33, 61]) = false := by rw [HTL.out, hT3]; rfl
        have t2 : ((str y.text).toList == [60]) = false := by rw [HTL.out, hT3]; rfl
        have t3 : ((str y.text).toList == [60, 61]) = true := by rw [HTL.out, hT3]; rfl
        have t4 : ((str y.text).toList == [62]) = false := by rw [HTL.out, hT3]; rfl
        have t5 : ((str y.text).toList == [62, 61]) = false := by rw [HTL.out, hT3]; rfl
        obtain ⟨hoff, r2, h2, hnx⟩ := cm_more HCM.out H0.out (by rw [HY.out]; exact HK3.out) (by rw [HY.out, hT3]; rfl)
        have hce : ∀ b, cmpE (lxAt xs s.k).text x b = Saw.two 8 x b := fun b => by rw [HY.out, hT3]; rfl
        have HNX := Lib.hid (fun b s' (hs : RfRel r2 b s') => (hce b) ▸ hnx b s' hs)
        have H2 := Lib.hid h2
        have hs0 : s = ⟨s.k, 0, 0⟩ := by have h0 := H0.out; obtain ⟨k2, er, off⟩ := s; simp only at h0 hoff; subst h0; subst hoff; rfl
        have hk4 : s.k + 1 < xs.length := lxEnds_next HE.out hk (by rw [HY.out, HK3.out]; decide)
        clear h2 hnx hoff hce hT3
        rw [hs0] at HSD
        obtain ⟨k1, hk1⟩ : ∃ k1, s.k = k1 := ⟨_, rfl⟩
        rw [hk1] at HSD hk4 H2
        clear hs0 hk1 HCM HY HK3 hk HTL
        obtain ⟨c0, c1', c2', c3', f1, f2, f3, hlt1⟩ := HSD.out.1.cells
        have hmw : IntKind.i64.wrap ((k1 : Int) + 1) = ((k1 + 1 : Nat) : Int) := by rw [IntKind.wrap_i64] <;> omega
        go_upto_region 14 with fail
        have hS3 := HSD.out.pos (k1 + 1)
        obtain ⟨W3, hW3⟩ : ∃ W, W2.setCell ⟨rb, 1, none⟩ (.int .i64 ((k1 : Int) + 1)) = W := ⟨_, rfl⟩
        rw [show W2.setCell ⟨rb, 1, none⟩ (.int .i64 ((k1 + 1 : Nat) : Int)) = W3 from hW3] at hS3
        rw [hW3]
        have HS3 := Lib.hid hS3
        clear hS3 hW3 HSD c0 c1' c2' c3' f1 f2 f3 hlt1 hmw
        go_wp2_with fail
        refine (HI.out .sum _ rfl _ _ H2.out hk4 _ rb _ HS3.out.1 (HS3.out.rdx HL.out)).mono ?_
        rintro e w4 ⟨hg, z, A2, c2, s2, he, hz, hr4, hk5, hrel⟩
        subst he
        have HREL := Lib.hid (HNX.out _ _ hrel)
        have hS5 := (HS3.out.call hr4 hg).below ((Below.refl _ _).alloc (Nat.le_refl _) (.cells (exArr z (.slice A2 z.kids.toList.length c2)) 24))
        have hE5 := heap_alloc_last w4 (.cells (exArr z (.slice A2 z.kids.toList.length c2)) 24)
        have hZ5 : RdFo (w4.alloc (.cells (exArr z (.slice A2 z.kids.toList.length c2)) 24)) (Iv (w.heap.size + 1) (w4.alloc (.cells (exArr z (.slice A2 z.kids.toList.length c2)) 24)).heap.size) (.slice A2 z.kids.toList.length c2) z.kids := (hz.alloc (fun b hb => hb.2) _).more (fun b hb => ⟨by have := hb.1; have := HS3.out.lt; omega, by have := hb.2; rw [World.size_alloc]; omega⟩)
        clear hg hz hr4 hrel H2 HNX
        go_upto_region 15 with fail
        obtain ⟨g5, hg5⟩ : ∃ g, w4.heap.size = g := ⟨_, rfl⟩
        obtain ⟨W5, hW5⟩ : ∃ W, w4.alloc (.cells #[.int .i64 z.op, .int .i64 z.n, .string (str z.name), .slice A2 z.kids.toList.length c2] 24) = W := ⟨_, rfl⟩
        rw [show w4.alloc (.cells (exArr z (.slice A2 z.kids.toList.length c2)) 24) = W5 from hW5] at hS5 hE5 hZ5
        rw [hg5] at hE5
        rw [hg5, hW5]
        have HS5 := Lib.hid hS5
        have HG := Lib.hid HS5.out.at_g
        have HG5 := Lib.hid (show W5.rangeAt g5 0 (exCells z (.slice A2 z.kids.toList.length c2)) from rangeAt_block hE5)
        have HZT := Lib.hid hZ5
        have HXT := Lib.hid (HS5.out.2.2.2.2.2.1.more (fun b hb => hb.1))
        have HLO := Lib.hid (show w.heap.size + 1 ≤ W5.heap.size by have := HS5.out.lt; omega)
        clear hS5 hE5 hZ5 hW5 hg5 HS3
        go_wp2_with (first
          | ((with_reducible refine ex_load g 0 x (.slice A1 x.kids.toList.length c1) ?hx HG.out ?_); (case hx => rfl))
          | ((with_reducible refine ex_load g5 0 z (.slice A2 z.kids.toList.length c2) ?hx HG5.out ?_); (case hx => rfl)))
        refine (two_rf _ _ x z _ _ _ _ _ _).mono ?_
        rintro e w6 ⟨g2, he, hg2, hg3, q1, q2, hb6⟩
        subst he
        have HS6 := Lib.hid (HS5.out.below hb6)
        have HT6 := Lib.hid (two_slice_rf HXT.out HZT.out HLO.out hb6 ⟨hg2, hg3⟩ q1 q2 8)
        clear hb6 hg2 hg3 q1 q2
        obtain ⟨cs, hcs, hres⟩ := HS6.out.2.2.2.1
        have HCS := Lib.hid hcs
        have HRES := Lib.hid hres
        clear hcs hres
        go_wp2_with (first
          | ((with_reducible refine ex_put w.heap.size (Saw.two 8 x z) (.slice (some ⟨g2, 0, none⟩) 2 2) rfl ?hx ?hy HRES.out HCS ?_); (case hx => rfl); (case hy => rfl)))
        obtain ⟨p1, p2, p3, p4⟩ := HS6.out.toN.leave (x := Saw.two 8 x z) HT6.out (fun b hb => ⟨hb.1, hb.2⟩)
        exact bodyPost_ret (ex_res Tryd.results114 _ _ w.heap.size rfl p1) rfl ⟨p2, Saw.two 8 x z, _, _, s2, rfl, p3, p4, hk5, HREL.out⟩
      by_cases hT4 : y.text = [62]
      · have t0 : ((str y.text).toList == [61]) = false := by rw [HTL.out, hT4]; rfl
        have t1 : ((str y.text).toList == [33, 61]) = false := by rw [HTL.out, hT4]; rfl
        have t2 : ((str y.text).toList == [60]) = false := by rw [HTL.out, hT4]; rfl
        have t3 : ((str y.text).toList == [60, 61]) = false := by rw [HTL.out, hT4]; rfl
        have t4 : ((str y.text).toList == [62]) = true := by rw [HTL.out, hT4]; rfl
        have t5 : ((str y.text).toList == [62, 61]) = false := by rw [HTL.out, hT4]; rfl
        obtain ⟨hoff, r2, h2, hnx⟩ := cm_more HCM.out H0.out (by rw [HY.out]; exact HK3.out) (by rw [HY.out, hT4]; rfl)
        have hce : ∀ b, cmpE (lxAt xs s.k).text x b = Saw.two 7 b x := fun b => by rw [HY.out, hT4]; rfl
        have HNX := Lib.hid (fun b s' (hs : RfRel r2 b s') => (hce b) ▸ hnx b s' hs)
        have H2 := Lib.hid h2
        have hs0 : s = ⟨s.k, 0, 0⟩ := by have h0 := H0.out; obtain ⟨k2, er, off⟩ := s; simp only at h0 hoff; subst h0; subst hoff; rfl
        have hk4 : s.k + 1 < xs.length := lxEnds_next HE.out hk (by rw [HY.out, HK3.out]; decide)
        clear h2 hnx hoff hce hT4
        rw [hs0] at HSD
        obtain ⟨k1, hk1⟩ : ∃ k1, s.k = k1 := ⟨_, rfl⟩
        rw [hk1] at HSD hk4 H2
        clear hs0 hk1 HCM HY HK3 hk HTL
        obtain ⟨c0, c1', c2', c3', f1, f2, f3, hlt1⟩ := HSD.out.1.cells
        have hmw : IntKind.i64.wrap ((k1 : Int) + 1) = ((k1 + 1 : Nat) : Int) := by rw [IntKind.wrap_i64] <;> omega
        go_upto_region 14 with fail
        have hS3 := HSD.out.pos (k1 + 1)
        obtain ⟨W3, hW3⟩ : ∃ W, W2.setCell ⟨rb, 1, none⟩ (.int .i64 ((k1 : Int) + 1)) = W := ⟨_, rfl⟩
        rw [show W2.setCell ⟨rb, 1, none⟩ (.int .i64 ((k1 + 1 : Nat) : Int)) = W3 from hW3] at hS3
        rw [hW3]
        have HS3 := Lib.hid hS3
        clear hS3 hW3 HSD c0 c1' c2' c3' f1 f2 f3 hlt1 hmw
        go_wp2_with fail
        refine (HI.out .sum _ rfl _ _ H2.out hk4 _ rb _ HS3.out.1 (HS3.out.rdx HL.out)).mono ?_
        rintro e w4 ⟨hg, z, A2, c2, s2, he, hz, hr4, hk5, hrel⟩
        subst he
        have HREL := Lib.hid (HNX.out _ _ hrel)
        have hS5 := (HS3.out.call hr4 hg).below ((Below.refl _ _).alloc (Nat.le_refl _) (.cells (exArr z (.slice A2 z.kids.toList.length c2)) 24))
        have hE5 := heap_alloc_last w4 (.cells (exArr z (.slice A2 z.kids.toList.length c2)) 24)
        have hZ5 : RdFo (w4.alloc (.cells (exArr z (.slice A2 z.kids.toList.length c2)) 24)) (Iv (w.heap.size + 1) (w4.alloc (.cells (exArr z (.slice A2 z.kids.toList.length c2)) 24)).heap.size) (.slice A2 z.kids.toList.length c2) z.kids := (hz.alloc (fun b hb => hb.2) _).more (fun b hb => ⟨by have := hb.1; have := HS3.out.lt; omega, by have := hb.2; rw [World.size_alloc]; omega⟩)
        clear hg hz hr4 hrel H2 HNX
        go_upto_region 15 with fail
        obtain ⟨g5, hg5⟩ : ∃ g, w4.heap.size = g := ⟨_, rfl⟩
        obtain ⟨W5, hW5⟩ : ∃ W, w4.alloc (.cells #[.int .i64 z.op, .int .i64 z.n, .string (str z.name), .slice A2 z.kids.toList.length c2] 24) = W := ⟨_, rfl⟩
        rw [show w4.alloc (.cells (exArr z (.slice A2 z.kids.toList.length c2)) 24) = W5 from hW5] at hS5 hE5 hZ5
        rw [hg5] at hE5
        rw [hg5, hW5]
        have HS5 := Lib.hid hS5
        have HG := Lib.hid HS5.out.at_g
        have HG5 := Lib.hid (show W5.rangeAt g5 0 (exCells z (.slice A2 z.kids.toList.length c2)) from rangeAt_block hE5)
        have HZT := Lib.hid hZ5
        have HXT := Lib.hid (HS5.out.2.2.2.2.2.1.more (fun b hb => hb.1))
        have HLO := Lib.hid (show w.heap.size + 1 ≤ W5.heap.size by have := HS5.out.lt; omega)
        clear hS5 hE5 hZ5 hW5 hg5 HS3
        go_wp2_with (first
          | ((with_reducible refine ex_load g 0 x (.slice A1 x.kids.toList.length c1) ?hx HG.out ?_); (case hx => rfl))
          | ((with_reducible refine ex_load g5 0 z (.slice A2 z.kids.toList.length c2) ?hx HG5.out ?_); (case hx => rfl)))
        refine (two_rf _ _ z x _ _ _ _ _ _).mono ?_
        rintro e w6 ⟨g2, he, hg2, hg3, q1, q2, hb6⟩
        subst he
        have HS6 := Lib.hid (HS5.out.below hb6)
        have HT6 := Lib.hid (two_slice_rf HZT.out HXT.out HLO.out hb6 ⟨hg2, hg3⟩ q1 q2 7)
        clear hb6 hg2 hg3 q1 q2
        obtain ⟨cs, hcs, hres⟩ := HS6.out.2.2.2.1
        have HCS := Lib.hid hcs
        have HRES := Lib.hid hres
        clear hcs hres
        go_wp2_with (first
          | ((with_reducible refine ex_put w.heap.size (Saw.two 7 z x) (.slice (some ⟨g2, 0, none⟩) 2 2) rfl ?hx ?hy HRES.out HCS ?_); (case hx => rfl); (case hy => rfl)))
        obtain ⟨p1, p2, p3, p4⟩ := HS6.out.toN.leave (x := Saw.two 7 z x) HT6.out (fun b hb => ⟨hb.1, hb.2⟩)
        exact bodyPost_ret (ex_res Tryd.results114 _ _ w.heap.size rfl p1) rfl ⟨p2, Saw.two 7 z x, _, _, s2, rfl, p3, p4, hk5, HREL.out⟩
      by_cases hT5 : y.text = [62, 61]
      · have t0 : ((str y.text).toList == [61]) = false := by rw [HTL.out, hT5]; rfl
        have t1 : ((str y.text).toList == [33, 61]) = false := by rw [HTL.out, hT5]; rfl
        have t2 : ((str y.text).toList == [60]) = false := by rw [HTL.out, hT5]; rfl
        have t3 : ((str y.text).toList == [60, 61]) = false := by rw [HTL.out, hT5]; rfl
        have t4 : ((str y.text).toList == [62]) = false := by rw [HTL.out, hT5]; rfl
        have t5 : ((str y.text).toList == [62, 61]) = true := by rw [HTL.out, hT5]; rfl
        obtain ⟨hoff, r2, h2, hnx⟩ := cm_more HCM.out H0.out (by rw [HY.out]; exact HK3.out) (by rw [HY.out, hT5]; rfl)
        have hce : ∀ b, cmpE (lxAt xs s.k).text x b = Saw.two 8 b x := fun b => by rw [HY.out, hT5]; rfl
        have HNX := Lib.hid (fun b s' (hs : RfRel r2 b s') => (hce b) ▸ hnx b s' hs)
        have H2 := Lib.hid h2
        have hs0 : s = ⟨s.k, 0, 0⟩ := by have h0 := H0.out; obtain ⟨k2, er, off⟩ := s; simp only at h0 hoff; subst h0; subst hoff; rfl
        have hk4 : s.k + 1 < xs.length := lxEnds_next HE.out hk (by rw [HY.out, HK3.out]; decide)
        clear h2 hnx hoff hce hT5
        rw [hs0] at HSD
        obtain ⟨k1, hk1⟩ : ∃ k1, s.k = k1 := ⟨_, rfl⟩
        rw [hk1] at HSD hk4 H2
        clear hs0 hk1 HCM HY HK3 hk HTL
        obtain ⟨c0, c1', c2', c3', f1, f2, f3, hlt1⟩ := HSD.out.1.cells
        have hmw : IntKind.i64.wrap ((k1 : Int) + 1) = ((k1 + 1 : Nat) : Int) := by rw [IntKind.wrap_i64] <;> omega
        go_upto_region 14 with fail
        have hS3 := HSD.out.pos (k1 + 1)
        obtain ⟨W3, hW3⟩ : ∃ W, W2.setCell ⟨rb, 1, none⟩ (.int .i64 ((k1 : Int) + 1)) = W := ⟨_, rfl⟩
        rw [show W2.setCell ⟨rb, 1, none⟩ (.int .i64 ((k1 + 1 : Nat) : Int)) = W3 from hW3] at hS3
        rw [hW3]
        have HS3 := Lib.hid hS3
        clear hS3 hW3 HSD c0 c1' c2' c3' f1 f2 f3 hlt1 hmw
        go_wp2_with fail
        refine (HI.out .sum _ rfl _ _ H2.out hk4 _ rb _ HS3.out.1 (HS3.out.rdx HL.out)).mono ?_
        rintro e w4 ⟨hg, z, A2, c2, s2, he, hz, hr4, hk5, hrel⟩
        subst he
        have HREL := Lib.hid (HNX.out _ _ hrel)
        have hS5 := (HS3.out.call hr4 hg).below ((Below.refl _ _).alloc (Nat.le_refl _) (.cells (exArr z (.slice A2 z.kids.toList.length c2)) 24))
        have hE5 := heap_alloc_last w4 (.cells (exArr z (.slice A2 z.kids.toList.length c2)) 24)
        have hZ5 : RdFo (w4.alloc (.cells (exArr z (.slice A2 z.kids.toList.length c2)) 24)) (Iv (w.heap.size + 1) (w4.alloc (.cells (exArr z (.slice A2 z.kids.toList.length c2)) 24)).heap.size) (.slice A2 z.kids.toList.length c2) z.kids := (hz.alloc (fun b hb => hb.2) _).more (fun b hb => ⟨by have := hb.1; have := HS3.out.lt; omega, by have := hb.2; rw [World.size_alloc]; omega⟩)
        clear hg hz hr4 hrel H2 HNX
        go_upto_region 15 with fail
        obtain ⟨g5, hg5⟩ : ∃ g, w4.heap.size = g := ⟨_, rfl⟩
        obtain ⟨W5, hW5⟩ : ∃ W, w4.alloc (.cells #[.int .i64 z.op, .int .i64 z.n, .string (str z.name), .slice A2 z.kids.toList.length c2] 24) = W := ⟨_, rfl⟩
        rw [show w4.alloc (.cells (exArr z (.slice A2 z.kids.toList.length c2)) 24) = W5 from hW5] at hS5 hE5 hZ5
        rw [hg5] at hE5
        rw [hg5, hW5]
        have HS5 := Lib.hid hS5
        have HG := Lib.hid HS5.out.at_g
        have HG5 := Lib.hid (show W5.rangeAt g5 0 (exCells z (.slice A2 z.kids.toList.length c2)) from rangeAt_block hE5)
        have HZT := Lib.hid hZ5
        have HXT := Lib.hid (HS5.out.2.2.2.2.2.1.more (fun b hb => hb.1))
        have HLO := Lib.hid (show w.heap.size + 1 ≤ W5.heap.size by have := HS5.out.lt; omega)
        clear hS5 hE5 hZ5 hW5 hg5 HS3
        go_wp2_with (first
          | ((with_reducible refine ex_load g 0 x (.slice A1 x.kids.toList.length c1) ?hx HG.out ?_); (case hx => rfl))
          | ((with_reducible refine ex_load g5 0 z (.slice A2 z.kids.toList.length c2) ?hx HG5.out ?_); (case hx => rfl)))
        refine (two_rf _ _ z x _ _ _ _ _ _).mono ?_
        rintro e w6 ⟨g2, he, hg2, hg3, q1, q2, hb6⟩
        subst he
        have HS6 := Lib.hid (HS5.out.below hb6)
        have HT6 := Lib.hid (two_slice_rf HZT.out HXT.out HLO.out hb6 ⟨hg2, hg3⟩ q1 q2 8)
        clear hb6 hg2 hg3 q1 q2
        obtain ⟨cs, hcs, hres⟩ := HS6.out.2.2.2.1
        have HCS := Lib.hid hcs
        have HRES := Lib.hid hres
        clear hcs hres
        go_wp2_with (first
          | ((with_reducible refine ex_put w.heap.size (Saw.two 8 z x) (.slice (some ⟨g2, 0, none⟩) 2 2) rfl ?hx ?hy HRES.out HCS ?_); (case hx => rfl); (case hy => rfl)))
        obtain ⟨p1, p2, p3, p4⟩ := HS6.out.toN.leave (x := Saw.two 8 z x) HT6.out (fun b hb => ⟨hb.1, hb.2⟩)
        exact bodyPost_ret (ex_res Tryd.results114 _ _ w.heap.size rfl p1) rfl ⟨p2, Saw.two 8 z x, _, _, s2, rfl, p3, p4, hk5, HREL.out⟩
      have t0 : ((str y.text).toList == [61]) = false := by rw [HTL.out, beq_eq_false_iff_ne]; exact hT0
      have t1 : ((str y.text).toList == [33, 61]) = false := by rw [HTL.out, beq_eq_false_iff_ne]; exact hT1
      have t2 : ((str y.text).toList == [60]) = false := by rw [HTL.out, beq_eq_false_iff_ne]; exact hT2
      have t3 : ((str y.text).toList == [60, 61]) = false := by rw [HTL.out, beq_eq_false_iff_ne]; exact hT3
      have t4 : ((str y.text).toList == [62]) = false := by rw [HTL.out, beq_eq_false_iff_ne]; exact hT4
      have t5 : ((str y.text).toList == [62, 61]) = false := by rw [HTL.out, beq_eq_false_iff_ne]; exact hT5
      have hnc : ¬ ((lxAt xs s.k).kind = 3 ∧ isCmp (lxAt xs s.k).text = true) := by
        rw [HY.out]
        rintro ⟨_, h⟩
        simp [isCmp, hT0, hT1, hT2, hT3, hT4, hT5] at h
      have HREL := Lib.hid (cm_end HCM.out (fun _ => hnc))
      clear hnc hT0 hT1 hT2 hT3 hT4 hT5 HTL HCM HY
      obtain ⟨cs, hcs, hres⟩ := HSD.out.2.2.2.1
      have HG2 := Lib.hid HSD.out.at_g
      have HCS := Lib.hid hcs
      have HRES := Lib.hid hres
      clear hcs hres
      go_wp2_with (first
        | ((with_reducible refine ex_load g 0 x (.slice A1 x.kids.toList.length c1) ?hx HG2.out ?_); (case hx => rfl))
        | ((with_reducible refine ex_put w.heap.size x (.slice A1 x.kids.toList.length c1) rfl ?hx ?hy HRES.out HCS ?_); (case hx => rfl); (case hy => rfl)))
      obtain ⟨p1, p2, p3, p4⟩ := HSD.out.leave
      exact bodyPost_ret (ex_res Tryd.results114 _ _ w.heap.size rfl p1) rfl ⟨p2, x, _, _, s, rfl, p3, p4, hk, HREL.out⟩
    · have hk3b : (y.kind != 3) = true := by rw [bne_iff_ne]; exact hk3
      have HREL := Lib.hid (cm_end HCM.out (fun _ h => hk3 (by rw [← HY.out]; exact h.1)))
      clear HCM
      go_region
      go_wp2_with (first
        | ((with_reducible refine ex_load g 0 x (.slice A1 x.kids.toList.length c1) ?hx HG2.out ?_); (case hx => rfl))
        | ((with_reducible refine ex_put w.heap.size x (.slice A1 x.kids.toList.length c1) rfl ?hx ?hy HRES.out HCS ?_); (case hx => rfl); (case hy => rfl)))
      obtain ⟨p1, p2, p3, p4⟩ := HS2.out.leave
      exact bodyPost_ret (ex_res Tryd.results114 _ _ w.heap.size rfl p1) rfl ⟨p2, x, _, _, s, rfl, p3, p4, hk, HREL.out⟩
  · have h0b : (s.er != 0) = true := by rw [bne_iff_ne]; exact h0
    have HREL := Lib.hid (cm_end HCM.out (fun h => absurd h h0))
    clear HCM
    go_region
    go_wp2_with (first
      | ((with_reducible refine ex_load g 0 x (.slice A1 x.kids.toList.length c1) ?hx HG2.out ?_); (case hx => rfl))
      | ((with_reducible refine ex_put w.heap.size x (.slice A1 x.kids.toList.length c1) rfl ?hx ?hy HRES.out HCS ?_); (case hx => rfl); (case hy => rfl)))
    obtain ⟨p1, p2, p3, p4⟩ := HS2.out.leave
    exact bodyPost_ret (ex_res Tryd.results114 _ _ w.heap.size rfl p1) rfl ⟨p2, x, _, _, s, rfl, p3, p4, hk, HREL.out⟩

end Go.Proofs.YtkalkglllgebkaaDoor

namespace Saw
section
variable {xs : List Lx} {n k : Nat} {r : RR}
theorem fa_num (h : rd xs (n + 1) .fact k = some r) (h2 : (lxAt xs k).kind = 2) : r = .ok ⟨1, (lxAt xs k).num, [], .nil⟩ (k + 1) := by
  rw [rd, if_pos h2] at h
  injection h with h
  exact h.symm
theorem fa_name (h : rd xs (n + 1) .fact k = some r) (h1 : (lxAt xs k).kind = 1) (hn : namedP (lxAt xs k).text = true) : r = .ok ⟨2, 0, (lxAt xs k).text, .nil⟩ (k + 1) := by
  rw [rd, if_neg (by rw [h1]; decide), if_pos h1, if_pos hn] at h
  injection h with h
  exact h.symm
theorem fa_noname (h : rd xs (n + 1) .fact k = some r) (h1 : (lxAt xs k).kind = 1) (hn : namedP (lxAt xs k).text = false) : r = .bad 6 (lxAt xs k).off := by
  rw [rd, if_neg (by rw [h1]; decide), if_pos h1, if_neg (by rw [hn]; decide)] at h
  injection h with h
  exact h.symm
theorem mk_kind {t : List UInt8} (h : isMk xs k t = true) : (lxAt xs k).kind = 3 := lxIs_kind' h
theorem fa_minus (h : rd xs (n + 1) .fact k = some r) (hm : isMk xs k [45] = true) : r = if (lxAt xs (k + 1)).kind = 2 ∧ (lxAt xs (k + 1)).num ≠ 0 then .ok ⟨1, -(lxAt xs (k + 1)).num, [], .nil⟩ (k + 2) else .bad 5 (lxAt xs (k + 1)).off := by
  rw [rd, if_neg (by rw [mk_kind hm]; decide), if_neg (by rw [mk_kind hm]; decide), if_pos hm] at h
  split at h <;> injection h with h
  · rename_i h1; rw [if_pos h1]; exact h.symm
  · rename_i h1; rw [if_neg h1]; exact h.symm
theorem fa_other (h : rd xs (n + 1) .fact k = some r) (h2 : (lxAt xs k).kind ≠ 2) (h1 : (lxAt xs k).kind ≠ 1) (hm : isMk xs k [45] = false) (hp : isMk xs k [40] = false) : r = .bad 5 (lxAt xs k).off := by
  rw [rd, if_neg h2, if_neg h1, if_neg (by rw [hm]; decide), if_neg (by rw [hp]; decide)] at h
  injection h with h
  exact h.symm
theorem fa_par (h : rd xs (n + 1) .fact k = some r) (hm : isMk xs k [45] = false) (hp : isMk xs k [40] = true) : ∃ r1, rd xs n .expr (k + 1) = some r1 ∧ (∀ er off, r1 = .bad er off → r = .bad er off) ∧ ∀ e k', r1 = .ok e k' → r = if isMk xs k' [41] = true then .ok e (k' + 1) else .bad 5 (lxAt xs k').off := by
  rw [rd, if_neg (by rw [mk_kind hp]; decide), if_neg (by rw [mk_kind hp]; decide), if_neg (by rw [hm]; decide), if_pos hp] at h
  rcases andThen_some h with ⟨er, off, h1, rfl⟩ | ⟨e1, k1, h1, h2⟩
  · exact ⟨_, h1, fun er' off' e => e, nofun⟩
  · refine ⟨_, h1, nofun, fun e k' he => ?_⟩
    injection he with ha hb
    subst ha hb
    split at h2 <;> injection h2 with h2
    · rename_i h3; rw [if_pos h3]; exact h2.symm
    · rename_i h3; rw [if_neg h3]; exact h2.symm
end
end Saw
namespace Go.Proofs.YtkalkglllgebkaaDoor
open Go.RowKit Saw

theorem NfSt.drew {w W : World} {rb : Nat} {lv : Value} {s : Rs} (h : NfSt w W rb lv s) : NfSt w W.drew rb lv s := ⟨h.1, gb_drew h.2.1, h.2.2.1, h.2.2.2.1, h.2.2.2.2⟩
theorem LfSt.drew {w W : World} {rb g : Nat} {lv : Value} {s : Rs} {y : Lx} (h : LfSt w W rb lv s g y) : LfSt w W.drew rb lv s g y := ⟨h.1.drew, h.2⟩
/-- What take leaves behind an expression in parentheses. -/
theorem par_rel {xs : List Lx} (hX : XrOk xs) {r r1 : RR} {z : Ex} {s : Rs} (hk : s.k < xs.length) (h : RfRel r1 z s) (hb : ∀ er off, r1 = .bad er off → r = .bad er off) (ho : ∀ e k', r1 = .ok e k' → r = if isMk xs k' [41] = true then .ok e (k' + 1) else .bad 5 (lxAt xs k').off) :
    RfRel r z (takeRf xs s [41]) ∧ (takeRf xs s [41]).k < xs.length := by
  cases r1 with
  | bad er off =>
    obtain ⟨h0, h1, h2⟩ := h
    have h3 : s.er ≠ 0 := by rw [h1]; exact h0
    have ht : takeRf xs s [41] = s := by
      rw [takeRf, if_neg (by rw [decide_eq_false h3, Bool.false_and]; decide), Rs.fails, if_neg h3]
    rw [ht, hb _ _ rfl]
    exact ⟨⟨h0, h1, h2⟩, hk⟩
  | ok e k' =>
    obtain ⟨rfl, rfl⟩ := h
    rw [ho _ _ rfl, takeRf, an_mark hX.2 k' (t := [41]) (by rfl)]
    by_cases hm : isMk xs k' [41] = true
    · rw [if_pos hm, if_pos (by rw [hm]; rfl)]
      exact ⟨⟨rfl, rfl⟩, isMk_in hX.1.1 hk hm⟩
    · rw [if_neg hm, if_neg (by simpa using hm)]
      exact ⟨⟨by decide, rfl, rfl⟩, hk⟩

set_option maxRecDepth 100000 in
set_option maxHeartbeats 4000000 in
theorem fact_rf {xs : List Lx} (hX : XrOk xs) {n : Nat} (IH : ∀ m, m ≤ n → RfCalls xs m) (k : Nat) (r : RR) (h : rd xs (n + 1) .fact k = some r) (hkx : k < xs.length)
    (w : World) (rb : Nat) (lv : Value) (hr : IsRf w rb lv ⟨k, 0, 0⟩) (hl : RdXs w rb lv xs) : Calls Tryd.prog 128 #[.pointer (some ⟨rb, 0, none⟩)] w (RfPost w rb lv xs r) := by
  have hxm := hX.1.2.1
  have HI := Lib.hid (IH n (Nat.le_refl _))
  have hS := NfSt.first_ (z := #[.int .i64 0, .int .i64 0, .string ⟨#[]⟩, .slice none 0 0]) rfl hr
  have HL := Lib.hid hl
  have HX := Lib.hid hX
  have HH := Lib.hid h
  clear IH hr hl hX h
  go_enter Tryd.func128, Tryd.ntmps128
  go_upto_region 1 with fail
  obtain ⟨W0, hW0⟩ : ∃ W, w.alloc (.cells #[.int .i64 0, .int .i64 0, .string ⟨#[]⟩, .slice none 0 0] 24) = W := ⟨_, rfl⟩
  rw [hW0] at hS ⊢
  have HS := Lib.hid hS
  clear hS hW0
  obtain ⟨c0, c1', c2', c3', f1, f2, f3, hlt1⟩ := HS.out.1.cells
  obtain ⟨y, hy⟩ : ∃ y, lxAt xs k = y := ⟨_, rfl⟩
  obtain ⟨b, off, cc, hlv, hcc, hbs, hml, d0, d1, d2, d3⟩ := lx_reads (HS.out.rdx HL.out) hkx hy
  subst hlv
  have hbs' : b < W0.heap.size := by omega
  have HY := Lib.hid hy
  have hyt := HX.out.1.text hkx
  rw [hy] at hyt
  clear hy
  have hS1 := LfSt.drew (LfSt.first_ (y := y) HS.out)
  have hz0 : W0.heap.size = W0.heap.size := rfl
  go_wp2_with fail
  go_region
  obtain ⟨g, hg⟩ : ∃ g, W0.heap.size = g := ⟨_, rfl⟩
  obtain ⟨W1, hW1⟩ : ∃ W, (W0.alloc (.cells #[.int .i64 y.kind, .string (str y.text), .int .i64 y.num, .int .i64 y.off] 49)).drew = W := ⟨_, rfl⟩
  rw [hg, hW1] at hS1 ⊢
  have HS1 := Lib.hid hS1
  clear HS hS1 hW1 hg c0 c1' c2' c3' f1 f2 f3 d0 d1 d2 d3 hbs' hz0 hlt1
  obtain ⟨c0, c1', c2', c3', f1, f2, f3, hlt1⟩ := HS1.out.1.1.cells
  obtain ⟨d0, d1, d2, d3, hlt2⟩ := HS1.out.cells
  have HP := Lib.hid (HS1.out.pos (k + 1))
  have hmw : IntKind.i64.wrap ((k : Int) + 1) = ((k + 1 : Nat) : Int) := by rw [IntKind.wrap_i64] <;> omega
  by_cases hk2 : y.kind = 2
  · have h9 := fa_num HH.out (by rw [HY.out]; exact hk2)
    rw [HY.out] at h9
    subst h9
    have hkb : (y.kind == 2) = true := by rw [beq_iff_eq]; exact hk2
    have hk1 := lxEnds_next HX.out.1.1 hkx (by rw [HY.out, hk2]; decide)
    obtain ⟨cs, hcs, hres⟩ := HP.out.1.2.2.2.2
    have HCS := Lib.hid hcs
    have HRES := Lib.hid (show (W1.setCell ⟨rb, 1, none⟩ (.int .i64 ((k : Int) + 1))).heap[w.heap.size]? = some (.cells cs 24 (0, 0)) from hres)
    clear HH hk2 hcs hres
    go_wp2_with (first
      | ((with_reducible refine ex_put w.heap.size ⟨1, y.num, [], .nil⟩ (.slice none 0 0) rfl ?hx ?hy HRES.out HCS ?_); (case hx => rfl); (case hy => rfl)))
    obtain ⟨p1, p2, p3, p4⟩ := HP.out.1.leave (x := ⟨1, y.num, [], .nil⟩) (RdFo.none_ _ (fun _ => False)) nofun
    exact bodyPost_ret (ex_res Tryd.results128 _ _ w.heap.size rfl p1) rfl ⟨p2, ⟨1, y.num, [], .nil⟩, none, 0, ⟨k + 1, 0, 0⟩, rfl, p3, p4, hk1, ⟨rfl, rfl⟩⟩
  have hkb : (y.kind == 2) = false := by rw [beq_eq_false_iff_ne]; exact hk2
  have HK2 := Lib.hid hk2
  clear hk2
  go_wp2_with fail
  refine (is_rf _ rb _ ⟨k, 0, 0⟩ xs _ HS1.out.1.1 (HS1.out.1.rdx HL.out) hkx hxm).mono ?_
  rintro e w2 ⟨he, hb⟩
  have HS2 := Lib.hid (HS1.out.below hb)
  clear hb HS1 c0 c1' c2' c3' f1 f2 f3 d0 d1 d2 d3 hlt1 hlt2 HP
  obtain ⟨q, hq⟩ : ∃ q, isMk xs k [45] = q := ⟨_, rfl⟩
  rw [show (decide ((⟨k, 0, 0⟩ : Rs).er = 0) && isAn xs (⟨k, 0, 0⟩ : Rs).k (bts ⟨#[45]⟩)) = q from by rw [← hq, ← an_mark HX.out.2 k (t := [45]) (by rfl)]; rfl] at he
  subst he
  have HQ := Lib.hid hq
  clear hq
  obtain ⟨c0, c1', c2', c3', f1, f2, f3, hlt1⟩ := HS2.out.1.1.cells
  cases q with
  | true =>
    have hk1 := isMk_in HX.out.1.1 hkx HQ.out
    obtain ⟨z, hz⟩ : ∃ z, lxAt xs (k + 1) = z := ⟨_, rfl⟩
    have hzn := HX.out.1.num hk1
    have h9 := fa_minus HH.out HQ.out
    rw [hz] at h9 hzn
    have H9 := Lib.hid h9
    have HZ := Lib.hid hz
    clear hz h9 HH HQ
    go_upto_region 9 with fail
    have hS3 := HS2.out.pos (k + 1)
    obtain ⟨W3, hW3⟩ : ∃ W, w2.setCell ⟨rb, 1, none⟩ (.int .i64 ((k : Int) + 1)) = W := ⟨_, rfl⟩
    rw [show w2.setCell ⟨rb, 1, none⟩ (.int .i64 ((k + 1 : Nat) : Int)) = W3 from hW3] at hS3
    rw [hW3]
    have HS3 := Lib.hid hS3.1
    clear hS3 hW3 HS2 c0 c1' c2' c3' f1 f2 f3 hlt1 hmw
    obtain ⟨c0, c1', c2', c3', f1, f2, f3, hlt1⟩ := HS3.out.1.cells
    obtain ⟨b2, off2, cc2, hlv, hcc2, hbs2, hml2, d0, d1, d2, d3⟩ := lx_reads (HS3.out.rdx HL.out) hk1 HZ.out
    injection hlv with e1 e2 e3
    injection e1 with e1
    injection e1 with e1 e4 e5
    subst e1 e4 e3
    have hbs' : b < W3.heap.size := by omega
    have hS4 := LfSt.drew (LfSt.first_ (y := z) HS3.out)
    go_region
    obtain ⟨g4, hg4⟩ : ∃ g, W3.heap.size = g := ⟨_, rfl⟩
    obtain ⟨W4, hW4⟩ : ∃ W, (W3.alloc (.cells #[.int .i64 z.kind, .string (str z.text), .int .i64 z.num, .int .i64 z.off] 49)).drew = W := ⟨_, rfl⟩
    rw [hg4, hW4] at hS4 ⊢
    have HS4 := Lib.hid hS4
    clear HS3 hS4 hW4 hg4 c0 c1' c2' c3' f1 f2 f3 d0 d1 d2 d3 hbs' hlt1
    obtain ⟨c0, c1', c2', c3', f1, f2, f3, hlt1⟩ := HS4.out.1.1.cells
    obtain ⟨d0, d1, d2, d3, hlt2⟩ := HS4.out.cells
    by_cases hz2 : z.kind = 2 ∧ z.num ≠ 0
    · have h9 := H9.out
      rw [if_pos hz2] at h9
      subst h9
      have hzb : (z.kind != 2) = false := by rw [bne_eq_false_iff_eq]; exact hz2.1
      have hz0 : (z.num == 0) = false := by rw [beq_eq_false_iff_ne]; exact hz2.2
      have hk2 := lxEnds_next HX.out.1.1 hk1 (by rw [HZ.out, hz2.1]; decide)
      have HP := Lib.hid (HS4.out.pos (k + 1 + 1))
      have hmw : IntKind.i64.wrap (((k + 1 : Nat) : Int) + 1) = ((k + 1 + 1 : Nat) : Int) := by rw [IntKind.wrap_i64] <;> omega
      have hmw2 : IntKind.i64.wrap (-z.num) = -z.num := by rw [IntKind.wrap_i64] <;> omega
      obtain ⟨cs, hcs, hres⟩ := HP.out.1.2.2.2.2
      have HCS := Lib.hid hcs
      have HRES := Lib.hid (show (W4.setCell ⟨rb, 1, none⟩ (.int .i64 ((k : Int) + 1 + 1))).heap[w.heap.size]? = some (.cells cs 24 (0, 0)) from hres)
      clear hcs hres hz2
      go_wp2_with (first
        | ((with_reducible refine ex_put w.heap.size ⟨1, -z.num, [], .nil⟩ (.slice none 0 0) rfl ?hx ?hy HRES.out HCS ?_); (case hx => rfl); (case hy => rfl)))
      obtain ⟨p1, p2, p3, p4⟩ := HP.out.1.leave (x := ⟨1, -z.num, [], .nil⟩) (RdFo.none_ _ (fun _ => False)) nofun
      exact bodyPost_ret (ex_res Tryd.results128 _ _ w.heap.size rfl p1) rfl ⟨p2, ⟨1, -z.num, [], .nil⟩, none, 0, ⟨k + 1 + 1, 0, 0⟩, rfl, p3, p4, hk2, ⟨rfl, rfl⟩⟩
    · have h9 := H9.out
      rw [if_neg hz2] at h9
      subst h9
      have hzz : (z.kind != 2) = true ∨ (z.kind != 2) = false ∧ (z.num == 0) = true := by
        by_cases h1 : z.kind = 2
        · exact .inr ⟨by rw [bne_eq_false_iff_eq]; exact h1, by rw [beq_iff_eq]; exact Classical.byContradiction fun h2 => hz2 ⟨h1, h2⟩⟩
        · exact .inl (by rw [bne_iff_ne]; exact h1)
      have HF := Lib.hid (fail_rf W4 rb _ ⟨k + 1, 0, 0⟩ 5 z.off HS4.out.1.1)
      clear hz2 H9
      rcases hzz with hzb | ⟨hzb, hz0⟩
      all_goals
        go_wp2_with fail
        refine HF.out.mono ?_
        rintro e w5 ⟨he, hg, hr5⟩
        subst he
        have HP := Lib.hid (HS4.out.1.call hr5 hg)
        obtain ⟨cs, hcs, hres⟩ := HP.out.2.2.2.2
        have HCS := Lib.hid hcs
        have HRES := Lib.hid hres
        clear hcs hres hg hr5 HF
        go_wp2_with (first
          | ((with_reducible refine ex_put w.heap.size Ex.zero (.slice none 0 0) rfl ?hx ?hy HRES.out HCS ?_); (case hx => rfl); (case hy => rfl)))
        obtain ⟨p1, p2, p3, p4⟩ := HP.out.leave (x := Ex.zero) (RdFo.none_ _ (fun _ => False)) nofun
        exact bodyPost_ret (ex_res Tryd.results128 _ _ w.heap.size rfl p1) rfl ⟨p2, Ex.zero, none, 0, _, rfl, p3, p4, hk1, ⟨by decide, rfl, rfl⟩⟩
  | false =>
    go_wp2_with fail
    refine (is_rf _ rb _ ⟨k, 0, 0⟩ xs _ HS2.out.1.1 (HS2.out.1.rdx HL.out) hkx hxm).mono ?_
    rintro e w3 ⟨he, hb⟩
    have HS3 := Lib.hid (HS2.out.below hb)
    clear hb HS2 c0 c1' c2' c3' f1 f2 f3 hlt1
    obtain ⟨q, hq⟩ : ∃ q, isMk xs k [40] = q := ⟨_, rfl⟩
    rw [show (decide ((⟨k, 0, 0⟩ : Rs).er = 0) && isAn xs (⟨k, 0, 0⟩ : Rs).k (bts ⟨#[40]⟩)) = q from by rw [← hq, ← an_mark HX.out.2 k (t := [40]) (by rfl)]; rfl] at he
    subst he
    have HQ2 := Lib.hid hq
    clear hq
    obtain ⟨c0, c1', c2', c3', f1, f2, f3, hlt1⟩ := HS3.out.1.1.cells
    obtain ⟨d0, d1, d2, d3, hlt2⟩ := HS3.out.cells
    cases q with
    | true =>
      have hk1 := isMk_in HX.out.1.1 hkx HQ2.out
      obtain ⟨r1, h1, hb, ho⟩ := fa_par HH.out HQ.out HQ2.out
      have H1 := Lib.hid h1
      have HB := Lib.hid hb
      have HO := Lib.hid ho
      clear h1 hb ho HH HQ HQ2 d0 d1 d2 d3 hlt2
      go_wp2_with fail
      have hS4 := HS3.out.pos (k + 1)
      obtain ⟨W4, hW4⟩ : ∃ W, w3.setCell ⟨rb, 1, none⟩ (.int .i64 ((k : Int) + 1)) = W := ⟨_, rfl⟩
      rw [show w3.setCell ⟨rb, 1, none⟩ (.int .i64 ((k + 1 : Nat) : Int)) = W4 from hW4] at hS4
      rw [hW4]
      have HS4 := Lib.hid hS4.1
      clear hS4 hW4 HS3 c0 c1' c2' c3' f1 f2 f3 hlt1 hmw
      refine (HI.out .expr _ rfl _ _ H1.out hk1 _ rb _ HS4.out.1 (HS4.out.rdx HL.out)).mono ?_
      rintro e w5 ⟨hg, z, A5, c5, s5, he, hz, hr5, hk5, hrel⟩
      subst he
      have hS5 := EfSt.later_ HS4.out hr5 hg hz
      obtain ⟨hq1, hq2⟩ := par_rel HX.out hk5 hrel HB.out HO.out
      have HREL := Lib.hid hq1
      have HK6 := Lib.hid hq2
      clear hg hz hr5 hrel HB HO hq1 hq2 HS4
      go_upto_region 18 with fail
      obtain ⟨g5, hg5⟩ : ∃ g, w5.heap.size = g := ⟨_, rfl⟩
      obtain ⟨W5, hW5⟩ : ∃ W, w5.alloc (.cells #[.int .i64 z.op, .int .i64 z.n, .string (str z.name), .slice A5 z.kids.toList.length c5] 24) = W := ⟨_, rfl⟩
      rw [hg5, show w5.alloc (.cells (exArr z (.slice A5 z.kids.toList.length c5)) 24) = W5 from hW5] at hS5
      rw [hg5, hW5]
      have HS5 := Lib.hid hS5
      clear hS5 hW5 hg5
      go_wp2_with fail
      refine (take_rf _ rb _ s5 xs _ HS5.out.1 (HS5.out.rdx HL.out) hk5 hxm).mono ?_
      rintro e w6 ⟨he, hg, hr6⟩
      subst he
      have HS6 := Lib.hid (HS5.out.call hr6 hg)
      clear hg hr6 HS5
      have HG := Lib.hid HS6.out.at_g
      obtain ⟨cs, hcs, hres⟩ := HS6.out.2.2.2.1
      have HCS := Lib.hid hcs
      have HRES := Lib.hid hres
      clear hcs hres
      go_wp2_with (first
        | ((with_reducible refine ex_load g5 0 z (.slice A5 z.kids.toList.length c5) ?hx HG.out ?_); (case hx => rfl))
        | ((with_reducible refine ex_put w.heap.size z (.slice A5 z.kids.toList.length c5) rfl ?hx ?hy HRES.out HCS ?_); (case hx => rfl); (case hy => rfl)))
      obtain ⟨p1, p2, p3, p4⟩ := HS6.out.leave
      exact bodyPost_ret (ex_res Tryd.results128 _ _ w.heap.size rfl p1) rfl ⟨p2, z, _, _, _, rfl, p3, p4, HK6.out, HREL.out⟩
    | false =>
      by_cases hk1 : y.kind = 1
      · have hk1b : (y.kind != 1) = false := by rw [bne_eq_false_iff_eq]; exact hk1
        have hk1n := lxEnds_next HX.out.1.1 hkx (by rw [HY.out, hk1]; decide)
        have HT := Lib.hid (rNamed_any (str y.text) w3 (by rw [size_str]; omega))
        rw [bts_str] at HT
        have HF := Lib.hid (fail_rf w3 rb _ ⟨k, 0, 0⟩ 6 y.off HS3.out.1.1)
        have hyk : (lxAt xs k).kind = 1 := by rw [HY.out]; exact hk1
        have HYK := Lib.hid hyk
        clear hyk hk1 HQ HQ2
        go_wp2_with fail
        refine HT.out.mono ?_
        rintro e w4 ⟨he, rfl⟩
        obtain ⟨q, hq⟩ : ∃ q, namedP y.text = q := ⟨_, rfl⟩
        rw [hq] at he
        subst he
        cases q with
        | true =>
          have h9 := fa_name HH.out HYK.out (by rw [HY.out]; exact hq)
          rw [HY.out] at h9
          subst h9
          have HP := Lib.hid (HS3.out.pos (k + 1))
          obtain ⟨cs, hcs, hres⟩ := HP.out.1.2.2.2.2
          have HCS := Lib.hid hcs
          have HRES := Lib.hid (show (w3.setCell ⟨rb, 1, none⟩ (.int .i64 ((k : Int) + 1))).heap[w.heap.size]? = some (.cells cs 24 (0, 0)) from hres)
          have e1 : (w3.setCell ⟨rb, 1, none⟩ (.int .i64 ((k : Int) + 1))).cell? ⟨g, 1, none⟩ = some (.string (str y.text)) := HP.out.cells.2.1
          clear HH hcs hres hq
          go_wp2_with (first
            | ((with_reducible refine ex_put w.heap.size ⟨2, 0, y.text, .nil⟩ (.slice none 0 0) rfl ?hx ?hy HRES.out HCS ?_); (case hx => rfl); (case hy => rfl)))
          obtain ⟨p1, p2, p3, p4⟩ := HP.out.1.leave (x := ⟨2, 0, y.text, .nil⟩) (RdFo.none_ _ (fun _ => False)) nofun
          exact bodyPost_ret (ex_res Tryd.results128 _ _ w.heap.size rfl p1) rfl ⟨p2, ⟨2, 0, y.text, .nil⟩, none, 0, ⟨k + 1, 0, 0⟩, rfl, p3, p4, hk1n, ⟨rfl, rfl⟩⟩
        | false =>
          have h9 := fa_noname HH.out HYK.out (by rw [HY.out]; exact hq)
          rw [HY.out] at h9
          subst h9
          clear HH hq
          go_wp2_with fail
          refine HF.out.mono ?_
          rintro e w5 ⟨he, hg, hr5⟩
          subst he
          have HP := Lib.hid (HS3.out.1.call hr5 hg)
          obtain ⟨cs, hcs, hres⟩ := HP.out.2.2.2.2
          have HCS := Lib.hid hcs
          have HRES := Lib.hid hres
          clear hcs hres hg hr5 HF
          go_wp2_with (first
            | ((with_reducible refine ex_put w.heap.size Ex.zero (.slice none 0 0) rfl ?hx ?hy HRES.out HCS ?_); (case hx => rfl); (case hy => rfl)))
          obtain ⟨p1, p2, p3, p4⟩ := HP.out.leave (x := Ex.zero) (RdFo.none_ _ (fun _ => False)) nofun
          exact bodyPost_ret (ex_res Tryd.results128 _ _ w.heap.size rfl p1) rfl ⟨p2, Ex.zero, none, 0, _, rfl, p3, p4, hkx, ⟨by decide, rfl, rfl⟩⟩
      · have hk1b : (y.kind != 1) = true := by rw [bne_iff_ne]; exact hk1
        have HF := Lib.hid (fail_rf w3 rb _ ⟨k, 0, 0⟩ 5 y.off HS3.out.1.1)
        have h9 := fa_other HH.out (by rw [HY.out]; exact HK2.out) (by rw [HY.out]; exact hk1) HQ.out HQ2.out
        rw [HY.out] at h9
        subst h9
        clear HH hk1
        go_wp2_with fail
        refine HF.out.mono ?_
        rintro e w5 ⟨he, hg, hr5⟩
        subst he
        have HP := Lib.hid (HS3.out.1.call hr5 hg)
        obtain ⟨cs, hcs, hres⟩ := HP.out.2.2.2.2
        have HCS := Lib.hid hcs
        have HRES := Lib.hid hres
        clear hcs hres hg hr5 HF
        go_wp2_with (first
          | ((with_reducible refine ex_put w.heap.size Ex.zero (.slice none 0 0) rfl ?hx ?hy HRES.out HCS ?_); (case hx => rfl); (case hy => rfl)))
        obtain ⟨p1, p2, p3, p4⟩ := HP.out.leave (x := Ex.zero) (RdFo.none_ _ (fun _ => False)) nofun
        exact bodyPost_ret (ex_res Tryd.results128 _ _ w.heap.size rfl p1) rfl ⟨p2, Ex.zero, none, 0, _, rfl, p3, p4, hkx, ⟨by decide, rfl, rfl⟩⟩

end Go.Proofs.YtkalkglllgebkaaDoor

namespace Go.Proofs.YtkalkglllgebkaaDoor
open Go.RowKit Saw

theorem xr_ok {s : List UInt8} {xs : List Lx} {a : Int} (h : scanP s = (xs, 0, a)) : XrOk xs := by
  obtain ⟨rfl, _⟩ := scan_okx h
  obtain ⟨ys, h1, _, h3, _⟩ := scanP_can h
  refine ⟨xs_ok h, ?_⟩
  rw [h1]
  exact canonP_of h3
theorem rf_calls {xs : List Lx} (hX : XrOk xs) : ∀ n, RfCalls xs n := by
  intro n
  induction n using Nat.strongRecOn with
  | _ n ih =>
    cases n with
    | zero => intro lvl f hf k r h; rw [rd] at h; cases h
    | succ n =>
      have IH : ∀ m, m ≤ n → RfCalls xs m := fun m hm => ih m (by omega)
      intro lvl f hf k r h hkx w rb lv hr hl
      cases lvl <;> simp only [fnRf, Option.some.injEq, reduceCtorEq] at hf <;> subst hf
      · exact expr_rf hX IH k r h hkx w rb lv hr hl
      · exact conj_rf hX IH k r h hkx w rb lv hr hl
      · exact neg_rf hX IH k r h hkx w rb lv hr hl
      · exact comp_rf hX IH k r h hkx w rb lv hr hl
      · exact sum_rf hX IH k r h hkx w rb lv hr hl
      · exact term_rf hX IH k r h hkx w rb lv hr hl
      · exact fact_rf hX IH k r h hkx w rb lv hr hl

set_option maxRecDepth 100000 in
set_option maxHeartbeats 1000000 in
theorem whole_rf {xs : List Lx} (hX : XrOk xs) (k : Nat) (hkx : k < xs.length) (w : World) (rb : Nat) (lv : Value) (hr : IsRf w rb lv ⟨k, 0, 0⟩) (hl : RdXs w rb lv xs) :
    Calls Tryd.prog 40 #[.pointer (some ⟨rb, 0, none⟩)] w (RfPost w rb lv xs (wholeE xs k)) := by
  have hxm := hX.1.2.1
  obtain ⟨r0, h0⟩ := rd_total hX.1.1 (12 * xs.length + 8) .expr k hkx (by simp only [Lv.rank]; omega)
  rw [whole_deep h0]
  have hS := NfSt.first_ (z := #[.int .i64 0, .int .i64 0, .string ⟨#[]⟩, .slice none 0 0]) rfl hr
  have HCE := Lib.hid (rf_calls hX (12 * xs.length + 8) .expr _ rfl k r0 h0 hkx)
  have HDEP := Lib.hid (fun e k' (h : r0 = .ok e k') => by
    have h1 := rd_depth hX.1.1 _ _ _ _ _ hkx (h0.trans (congrArg some h))
    have h2 := (rd_in hX.1.1 _ _ _ _ _ hkx (h0.trans (congrArg some h))).2
    exact (show e.depth ≤ 1000000000 by simp only [Lv.dep] at h1; omega))
  have HL := Lib.hid hl
  obtain ⟨y, hy⟩ : ∃ y, lxAt xs k = y := ⟨_, rfl⟩
  have HY := Lib.hid hy
  rw [hy]
  obtain ⟨p, hp⟩ : ∃ p, y.off = p := ⟨_, rfl⟩
  have HP := Lib.hid hp
  rw [hp]
  clear hr hl h0 hy hp
  go_enter Tryd.func40, Tryd.ntmps40
  go_upto_region 1 with fail
  obtain ⟨W0, hW0⟩ : ∃ W, w.alloc (.cells #[.int .i64 0, .int .i64 0, .string ⟨#[]⟩, .slice none 0 0] 24) = W := ⟨_, rfl⟩
  rw [hW0] at hS ⊢
  have HS := Lib.hid hS
  have HS1 := Lib.hid hS.drew
  clear hS hW0
  obtain ⟨c0, c1', c2', c3', f1, f2, f3, hlt1⟩ := HS.out.1.cells
  obtain ⟨b, off, cc, hlv, hcc, hbs, hml, d0, d1, d2, d3⟩ := lx_reads (HS.out.rdx HL.out) hkx HY.out
  subst hlv
  have hbs' : b < W0.heap.size := by omega
  rw [HP.out] at d3
  go_region
  obtain ⟨W1, hW1⟩ : ∃ W, W0.drew = W := ⟨_, rfl⟩
  rw [hW1] at HS1 ⊢
  clear hW1 HS c0 c1' c2' c3' f1 f2 f3 d0 d1 d2 d3 hbs' hlt1
  go_wp2_with fail
  refine (HCE.out _ rb _ HS1.out.1 (HS1.out.rdx HL.out)).mono ?_
  rintro e w2 ⟨hg, x, A1, c1, s, he, hrd, hr2, hk2, hrel⟩
  subst he
  have hS2 := EfSt.later_ HS1.out hr2 hg hrd
  have hD := (rdFo_zero hrd).allocN (.cells (exArr x (.slice A1 x.kids.toList.length c1)) 24)
  go_upto_region 3 with fail
  obtain ⟨g, hgq⟩ : ∃ g, w2.heap.size = g := ⟨_, rfl⟩
  obtain ⟨W2, hW2⟩ : ∃ W, w2.alloc (.cells #[.int .i64 x.op, .int .i64 x.n, .string (str x.name), .slice A1 x.kids.toList.length c1] 24) = W := ⟨_, rfl⟩
  rw [show w2.alloc (.cells (exArr x (.slice A1 x.kids.toList.length c1)) 24) = W2 from hW2] at hS2 hD
  rw [hgq] at hS2
  rw [hgq, hW2]
  have HS2 := Lib.hid hS2
  have HD := Lib.hid hD
  have HG := Lib.hid hS2.at_g
  have HREL := Lib.hid hrel
  obtain ⟨c0, c1', c2', c3', f1, f2, f3, hlt1⟩ := HS2.out.1.cells
  clear hS2 hD hg hrd hr2 hW2 hgq HS1 HCE hrel
  by_cases h0 : s.er = 0
  · have h0b : (s.er == 0) = true := by rw [beq_iff_eq]; exact h0
    obtain ⟨k', rfl, rfl⟩ : ∃ k', r0 = .ok x k' ∧ s = ⟨k', 0, 0⟩ := by
      have h1 := HREL.out
      cases r0 with
      | bad er off => exact absurd (h1.2.1.symm.trans h0) h1.1
      | ok e k' => obtain ⟨rfl, rfl⟩ := h1; exact ⟨k', rfl, rfl⟩
    have hdx := HDEP.out x k' rfl
    obtain ⟨⟨z0, z1, z2, z3⟩, _⟩ := HS2.out.all
    clear HREL HDEP h0
    go_wp2_with fail
    refine (rDepth_any x.size x (Nat.le_refl _) hdx A1 c1 _ HD.out).mono ?_
    rintro e w3 ⟨he, hb⟩
    subst he
    have HS3 := Lib.hid (HS2.out.below hb)
    have HF := Lib.hid (fail_rf w3 rb _ ⟨k', 0, 0⟩ 28 p (HS2.out.below hb).1)
    clear hb HS2 HD HG c0 c1' c2' c3' f1 f2 f3 hlt1
    by_cases h8 : 8 < x.depth
    · have h8' : (8 : Int) < (x.depth : Int) := by omega
      have HE9 := Lib.hid (show deepE p (.ok x k') = .bad 28 p from if_pos h8)
      clear h8
      go_wp2_with fail
      refine HF.out.mono ?_
      rintro e w4 ⟨he, hg, hr4⟩
      subst he
      have HS4 := Lib.hid (HS3.out.call hr4 hg)
      have HG3 := Lib.hid HS4.out.at_g
      obtain ⟨cs, hcs, hres⟩ := HS4.out.2.2.2.1
      have HCS := Lib.hid hcs
      have HRES := Lib.hid hres
      clear hcs hres hg hr4
      go_wp2_with (first
        | ((with_reducible refine ex_load g 0 x (.slice A1 x.kids.toList.length c1) ?hx HG3.out ?_); (case hx => rfl))
        | ((with_reducible refine ex_put w.heap.size x (.slice A1 x.kids.toList.length c1) rfl ?hx ?hy HRES.out HCS ?_); (case hx => rfl); (case hy => rfl)))
      obtain ⟨p1, p2, p3, p4⟩ := HS4.out.leave
      exact bodyPost_ret (ex_res Tryd.results40 _ _ w.heap.size rfl p1) rfl ⟨p2, x, _, _, _, rfl, p3, p4, hk2, by rw [HE9.out]; exact ⟨by decide, rfl, rfl⟩⟩
    · have h8' : ¬ (8 : Int) < (x.depth : Int) := by omega
      have HE9 := Lib.hid (show deepE p (.ok x k') = .ok x k' from if_neg h8)
      clear h8
      have HG3 := Lib.hid HS3.out.at_g
      obtain ⟨cs, hcs, hres⟩ := HS3.out.2.2.2.1
      have HCS := Lib.hid hcs
      have HRES := Lib.hid hres
      clear hcs hres
      go_wp2_with (first
        | ((with_reducible refine ex_load g 0 x (.slice A1 x.kids.toList.length c1) ?hx HG3.out ?_); (case hx => rfl))
        | ((with_reducible refine ex_put w.heap.size x (.slice A1 x.kids.toList.length c1) rfl ?hx ?hy HRES.out HCS ?_); (case hx => rfl); (case hy => rfl)))
      obtain ⟨p1, p2, p3, p4⟩ := HS3.out.leave
      exact bodyPost_ret (ex_res Tryd.results40 _ _ w.heap.size rfl p1) rfl ⟨p2, x, _, _, _, rfl, p3, p4, hk2, by rw [HE9.out]; exact ⟨rfl, rfl⟩⟩
  · have h0b : (s.er == 0) = false := by rw [beq_eq_false_iff_ne]; exact h0
    have hrl : RfRel (deepE p r0) x s := by
      have h1 := HREL.out
      cases r0 with
      | bad er off => exact h1
      | ok e k' => obtain ⟨rfl, rfl⟩ := h1; exact absurd rfl h0
    have HRL := Lib.hid hrl
    clear hrl HREL HDEP h0 HD
    obtain ⟨cs, hcs, hres⟩ := HS2.out.2.2.2.1
    have HCS := Lib.hid hcs
    have HRES := Lib.hid hres
    clear hcs hres
    go_wp2_with (first
      | ((with_reducible refine ex_load g 0 x (.slice A1 x.kids.toList.length c1) ?hx HG.out ?_); (case hx => rfl))
      | ((with_reducible refine ex_put w.heap.size x (.slice A1 x.kids.toList.length c1) rfl ?hx ?hy HRES.out HCS ?_); (case hx => rfl); (case hy => rfl)))
    obtain ⟨p1, p2, p3, p4⟩ := HS2.out.leave
    exact bodyPost_ret (ex_res Tryd.results40 _ _ w.heap.size rfl p1) rfl ⟨p2, x, _, _, _, rfl, p3, p4, hk2, HRL.out⟩

end Go.Proofs.YtkalkglllgebkaaDoor

namespace Go.Proofs.YtkalkglllgebkaaDoor
open Go.RowKit Saw

/-- The three results, the first of them in a block. -/
theorem x3_res {fn : Func} (h : fn.results = #[.cell 2 24, .tmp 3, .tmp 4]) (tmps : Array Value) {W : World} {g : Nat} {x : Ex} {sv a b : Value} {t : TypeId} (hg : W.heap[g]? = some (.cells (exArr x sv) t (0, 0)))
    (hp : tmps.getD 2 undef = .pointer (some ⟨g, 0, none⟩)) (hq : tmps.getD 3 undef = a) (hr : tmps.getD 4 undef = b) :
    (results fn tmps).run Tryd.prog W = .ok (.tuple #[.agg (exArr x sv), a, b]) W := by
  have hp' : tmps[2]?.getD undef = .pointer (some ⟨g, 0, none⟩) := by simpa using hp
  have hq' : tmps[3]?.getD undef = a := by simpa using hq
  have hr' : tmps[4]?.getD undef = b := by simpa using hr
  obtain ⟨e0, e1, e2, e3⟩ := rangeAt4 (show W.rangeAt g 0 (exCells x sv) from rangeAt_block hg)
  rw [Nat.zero_add] at e1 e2 e3
  simp [results, h, hp', hq', hr', asAddr, go_sem, e0, e1, e2, e3, exArr]

/-- How memory stands in ParseExpr: the result's block, the reader, an expression that was read. -/
def XSt (w W : World) (rb : Nat) (lv : Value) (s : Rs) (g : Nat) (x : Ex) (sv : Value) : Prop :=
  IsRf W rb lv s ∧ Below w.heap.size w W ∧ W.heap[w.heap.size]? = some (.cells (exArr Ex.zero (.slice none 0 0)) 24 (0, 0)) ∧ W.heap[g]? = some (.cells (exArr x sv) 24 (0, 0)) ∧
    RdFo W (fun b => Iv (w.heap.size + 1) W.heap.size b ∧ b ≠ rb) sv x.kids ∧ w.heap.size < rb ∧ rb < g ∧ g < W.heap.size
theorem XSt.call {w W W' : World} {rb g : Nat} {lv sv : Value} {s s' : Rs} {x : Ex} (h : XSt w W rb lv s g x sv) (hr : IsRf W' rb lv s') (hg : W.grownBy W' (some rb)) : XSt w W' rb lv s' g x sv := by
  obtain ⟨h1, h2, h3, h4, h5, h6, h7, h8⟩ := h
  have hs := hg.size
  refine ⟨hr, h2.grown hg h2.size (fun k hk => by injection hk with hk; omega), (hg.block _ (by omega) (fun e => by injection e; omega)).trans h3, (hg.block _ h8 (fun e => by injection e; omega)).trans h4, ?_, h6, h7, by omega⟩
  exact (h5.gb hg fun b hb => ⟨hb.2, hb.1.2⟩).more fun b hb => ⟨⟨hb.1.1, by have := hb.1.2; omega⟩, hb.2⟩

set_option maxRecDepth 100000 in
set_option maxHeartbeats 2000000 in
theorem rparseX_any (s : ByteArray) (w : World) (hs : s.size ≤ 9223372036854775807) : Calls Tryd.prog 17 #[.string s] w (ParseXPost (parseX (bts s)) w) := by
  obtain ⟨r, hr⟩ : ∃ r, parseX (bts s) = r := ⟨_, rfl⟩
  rw [hr]
  have HR := Lib.hid hr
  clear hr
  have hB0 := bel_alloc (ob := .cells #[.int .i64 0, .int .i64 0, .string ⟨#[]⟩, .slice none 0 0] 24) (Below.refl w.heap.size w)
  have hR0 := heap_alloc_last w (.cells #[.int .i64 0, .int .i64 0, .string ⟨#[]⟩, .slice none 0 0] 24)
  have hs0 : (w.alloc (.cells #[.int .i64 0, .int .i64 0, .string ⟨#[]⟩, .slice none 0 0] 24)).heap.size = w.heap.size + 1 := World.size_alloc _ _
  go_enter Tryd.func17, Tryd.ntmps17
  go_wp2_with fail
  obtain ⟨W0, hW0⟩ : ∃ W, w.alloc (.cells #[.int .i64 0, .int .i64 0, .string ⟨#[]⟩, .slice none 0 0] 24) = W := ⟨_, rfl⟩
  rw [hW0] at hB0 hR0 hs0 ⊢
  refine (refScan_any s _ hs).mono ?_
  rintro e w1 ⟨v, he, ho, hb⟩
  obtain ⟨xs, er, at_, hsc⟩ : ∃ xs er at_, scanP (bts s) = (xs, er, at_) := ⟨_, _, _, rfl⟩
  rw [hsc] at he ho
  subst he
  have HB1 := Lib.hid (bel_call hB0 hb)
  have HR1 := Lib.hid (show w1.heap[w.heap.size]? = some (.cells (exArr Ex.zero (.slice none 0 0)) 24 (0, 0)) from (hb.block _ (by omega)).trans hR0)
  have hsz1 := hb.size
  rw [hs0] at ho hsz1
  clear hb hB0 hR0 hs0 hW0
  by_cases her : er = 0
  · subst her
    obtain ⟨rfl, hpos, _, hlen, _, _⟩ := scan_okx hsc
    have HX := Lib.hid (xr_ok hsc)
    have hxm := HX.out.1.2.1
    have hre : r = match wholeE xs 0 with | .bad er off => (Ex.zero, er, off) | .ok e k => if (lxAt xs k).kind = 0 then (e, 0, 0) else (Ex.zero, 5, (lxAt xs k).off) := by
      rw [← HR.out, parseX, hsc]
      simp only [ne_eq, not_true_eq_false, if_false]
      rfl
    have HRE := Lib.hid hre
    obtain ⟨_, _, A0, cc, rfl, _, _⟩ := id (Rd.of_own ho)
    have hL := (Rd.of_own ho).below ((Below.refl _ _).alloc (Nat.le_refl _) (.cells #[.slice A0 xs.length cc, .int .i64 0, .int .i64 0, .int .i64 0] 71))
    have hP := heap_alloc_last w1 (.cells #[.slice A0 xs.length cc, .int .i64 0, .int .i64 0, .int .i64 0] 71)
    have HB2 := Lib.hid (bel_alloc (ob := .cells #[.slice A0 xs.length cc, .int .i64 0, .int .i64 0, .int .i64 0] 71) HB1.out)
    have HR2 := Lib.hid (hpA HR1.out (.cells #[.slice A0 xs.length cc, .int .i64 0, .int .i64 0, .int .i64 0] 71))
    clear ho hsc hre HR
    go_upto_region 5 with fail
    obtain ⟨rb, hrb⟩ : ∃ rb, w1.heap.size = rb := ⟨_, rfl⟩
    obtain ⟨W2, hW2⟩ : ∃ W, w1.alloc (.cells #[.slice A0 xs.length cc, .int .i64 0, .int .i64 0, .int .i64 0] 71) = W := ⟨_, rfl⟩
    rw [hW2] at hL hP HB2 HR2
    rw [hrb] at hL hP hsz1
    rw [hrb, hW2]
    have HL := Lib.hid (show RdXs W2 rb (.slice A0 xs.length cc) xs from hL)
    have HP := Lib.hid (show IsRf W2 rb (.slice A0 xs.length cc) ⟨0, 0, 0⟩ from hP)
    clear hL hP HB1 HR1 hW2 hrb
    have hrb2 : w.heap.size < rb := hsz1
    go_wp2_with fail
    refine (whole_rf HX.out 0 hpos _ rb _ HP.out HL.out).mono ?_
    rintro e w3 ⟨hg, x, A1, c1, s1, he, hrd, hr3, hk3, hrel⟩
    subst he
    have hs3 := hg.size
    have hlt := HP.out.lt
    have hL3 := (HL.out.gb hg hlt)
    have hX3 : XSt w (w3.alloc (.cells (exArr x (.slice A1 x.kids.toList.length c1)) 24)) rb (.slice A0 xs.length cc) s1 w3.heap.size x (.slice A1 x.kids.toList.length c1) := by
      refine ⟨hr3.alloc _, bel_alloc (HB2.out.grown hg HB2.out.size (fun k hk => by injection hk with hk; omega)), hpA ((hg.block _ (by omega) (fun e => by injection e; omega)).trans HR2.out) _, heap_alloc_last w3 _, ?_, hrb2, by omega, by rw [World.size_alloc]; omega⟩
      exact (hrd.alloc (fun b hb => hb.2) _).more fun b hb => ⟨⟨by have := hb.1; omega, by have := hb.2; rw [World.size_alloc]; omega⟩, by have := hb.1; omega⟩
    have hL4 : RdXs (w3.alloc (.cells (exArr x (.slice A1 x.kids.toList.length c1)) 24)) rb (.slice A0 xs.length cc) xs := hL3.gb (gb_alloc gb_refl _) (by omega)
    clear hg hrd hr3 hL3 HB2 HR2 HP HL
    go_upto_region 6 with fail
    obtain ⟨g, hg⟩ : ∃ g, w3.heap.size = g := ⟨_, rfl⟩
    obtain ⟨W3, hW3⟩ : ∃ W, w3.alloc (.cells #[.int .i64 x.op, .int .i64 x.n, .string (str x.name), .slice A1 x.kids.toList.length c1] 24) = W := ⟨_, rfl⟩
    rw [show w3.alloc (.cells (exArr x (.slice A1 x.kids.toList.length c1)) 24) = W3 from hW3] at hX3 hL4
    rw [hg] at hX3
    rw [hg, hW3]
    have HX3 := Lib.hid hX3
    obtain ⟨c0, c1', c2', c3', f1, f2, f3, hlt3⟩ := hX3.1.cells
    clear hX3 hW3 hg hs3 hlt
    by_cases h0 : s1.er = 0
    · have h0b : (s1.er == 0) = true := by rw [beq_iff_eq]; exact h0
      have h0c : (s1.er != 0) = false := by rw [bne_eq_false_iff_eq]; exact h0
      obtain ⟨k', hwk, hsk⟩ : ∃ k', wholeE xs 0 = .ok x k' ∧ s1 = ⟨k', 0, 0⟩ := by
        cases hw : wholeE xs 0 with
        | bad er off => rw [hw] at hrel; exact absurd (hrel.2.1.symm.trans h0) hrel.1
        | ok e k' => rw [hw] at hrel; obtain ⟨rfl, rfl⟩ := hrel; exact ⟨k', rfl, rfl⟩
      subst hsk
      have hrf : r = if (lxAt xs k').kind = 0 then (x, 0, 0) else (Ex.zero, 5, (lxAt xs k').off) := by rw [HRE.out, hwk]
      obtain ⟨y, hy⟩ : ∃ y, lxAt xs k' = y := ⟨_, rfl⟩
      obtain ⟨b, off, cc2, hlv, hcc, hbs, hml, d0, d1, d2, d3⟩ := lx_reads hL4 hk3 hy
      injection hlv with e1 e2 e3
      subst e1
      have hbs' : b < W3.heap.size := by omega
      rw [hy] at hrf
      have HRF := Lib.hid hrf
      clear hrf hwk hrel HRE hy h0
      by_cases hk0 : y.kind = 0
      · have hkb : (y.kind != 0) = false := by rw [bne_eq_false_iff_eq]; exact hk0
        have hre := HRF.out
        rw [if_pos hk0] at hre
        subst hre
        have HG := Lib.hid (show W3.rangeAt g 0 (exCells x (.slice A1 x.kids.toList.length c1)) from rangeAt_block HX3.out.2.2.2.1)
        have HRES := Lib.hid HX3.out.2.2.1
        have HCS : Hid ((exArr Ex.zero (.slice none 0 0)).size = 4) := Lib.hid rfl
        clear hk0 HRF
        go_wp2_with (first
          | ((with_reducible refine ex_load g 0 x (.slice A1 x.kids.toList.length c1) ?hx HG.out ?_); (case hx => rfl))
          | ((with_reducible refine ex_put w.heap.size x (.slice A1 x.kids.toList.length c1) rfl ?hx ?hy HRES.out HCS ?_); (case hx => rfl); (case hy => rfl)))
        refine bodyPost_ret (x3_res (x := x) Tryd.results17 _ (setRow_heap _ _ _ _ _ _ HRES.out) rfl rfl rfl) rfl ⟨A1, c1, rfl, ?_, HX3.out.2.1.setRow (Nat.le_refl _) _⟩
        rw [show (W3.setRow w.heap.size #[.int .i64 x.op, .int .i64 x.n, .string (str x.name), .slice A1 x.kids.toList.length c1]).heap.size = W3.heap.size by simp]
        exact (HX3.out.2.2.2.2.1.setRow (fun b hb => by have := hb.1.1; omega) _).more fun b hb => ⟨by have := hb.1.1; omega, hb.1.2⟩
      · have hkb : (y.kind != 0) = true := by rw [bne_iff_ne]; exact hk0
        have hre := HRF.out
        rw [if_neg hk0] at hre
        subst hre
        have HF := Lib.hid (fail_rf W3 rb _ ⟨k', 0, 0⟩ 5 y.off HX3.out.1)
        clear hk0 HRF
        go_wp2_with fail
        refine HF.out.mono ?_
        rintro e w4 ⟨he, hg, hr4⟩
        subst he
        have HX4 := Lib.hid (HX3.out.call hr4 hg)
        obtain ⟨c0, c1', c2', c3', f1, f2, f3, hlt4⟩ := (show IsRf w4 rb _ ⟨k', 5, y.off⟩ from hr4).cells
        have hr5 := HX4.out.2.2.1
        obtain ⟨z0, z1, z2, z3⟩ : w4.frozen? ⟨w.heap.size, 0, none⟩ = false ∧ w4.frozen? ⟨w.heap.size, 1, none⟩ = false ∧ w4.frozen? ⟨w.heap.size, 2, none⟩ = false ∧ w4.frozen? ⟨w.heap.size, 3, none⟩ = false := by
          refine ⟨?_, ?_, ?_, ?_⟩ <;> simp [World.frozen?, hr5]
        obtain ⟨e0, e1, e2, e3⟩ := rangeAt4 (show w4.rangeAt w.heap.size 0 (exCells Ex.zero (.slice none 0 0)) from rangeAt_block hr5)
        have HR5 := Lib.hid hr5
        clear hg hr4 hr5 HF HX3
        go_wp2_with fail
        go_region
        go_wp2_with fail
        rw [set4_row HR5.out rfl]
        exact bodyPost_ret (x3_res (x := Ex.zero) (sv := .slice none 0 0) Tryd.results17 _ (setRow_heap _ _ _ _ _ _ HR5.out) rfl rfl rfl) rfl ⟨none, 0, rfl, RdFo.none_ _ _, (HX4.out.2.1.setRow (Nat.le_refl _) _).drew⟩
    · have h0b : (s1.er == 0) = false := by rw [beq_eq_false_iff_ne]; exact h0
      have h0c : (s1.er != 0) = true := by rw [bne_iff_ne]; exact h0
      have hre : r = (Ex.zero, s1.er, s1.off) := by
        rw [HRE.out]
        cases hw : wholeE xs 0 with
        | bad er off => rw [hw] at hrel; obtain ⟨_, h1, h2⟩ := hrel; rw [h1, h2]
        | ok e k' => rw [hw] at hrel; obtain ⟨_, rfl⟩ := hrel; exact absurd rfl h0
      subst hre
      have hr5 := HX3.out.2.2.1
      obtain ⟨z0, z1, z2, z3⟩ : W3.frozen? ⟨w.heap.size, 0, none⟩ = false ∧ W3.frozen? ⟨w.heap.size, 1, none⟩ = false ∧ W3.frozen? ⟨w.heap.size, 2, none⟩ = false ∧ W3.frozen? ⟨w.heap.size, 3, none⟩ = false := by
        refine ⟨?_, ?_, ?_, ?_⟩ <;> simp [World.frozen?, hr5]
      obtain ⟨e0, e1, e2, e3⟩ := rangeAt4 (show W3.rangeAt w.heap.size 0 (exCells Ex.zero (.slice none 0 0)) from rangeAt_block hr5)
      have HR5 := Lib.hid hr5
      clear hr5 hrel HRE h0
      go_wp2_with fail
      go_region
      go_wp2_with fail
      rw [set4_row HR5.out rfl]
      exact bodyPost_ret (x3_res (x := Ex.zero) (sv := .slice none 0 0) Tryd.results17 _ (setRow_heap _ _ _ _ _ _ HR5.out) rfl rfl rfl) rfl ⟨none, 0, rfl, RdFo.none_ _ _, (HX3.out.2.1.setRow (Nat.le_refl _) _).drew⟩
  · have hre : r = (Ex.zero, er, at_) := by
      rw [← HR.out, parseX, hsc]
      exact if_pos her
    subst hre
    have hneb : (er != 0) = true := by rw [bne_iff_ne]; exact her
    have HRES := HR1
    have HCS : Hid ((exArr Ex.zero (.slice none 0 0)).size = 4) := Lib.hid rfl
    clear ho hsc her HR
    go_wp2_with (first
      | ((with_reducible refine ex_put w.heap.size Ex.zero (.slice none 0 0) rfl ?hx ?hy HRES.out HCS ?_); (case hx => rfl); (case hy => rfl)))
    exact bodyPost_ret (x3_res (x := Ex.zero) (sv := .slice none 0 0) Tryd.results17 _ (setRow_heap _ _ _ _ _ _ HRES.out) rfl rfl rfl) rfl ⟨none, 0, rfl, RdFo.none_ _ _, HB1.out.setRow (Nat.le_refl _) _⟩

end Go.Proofs.YtkalkglllgebkaaDoor
