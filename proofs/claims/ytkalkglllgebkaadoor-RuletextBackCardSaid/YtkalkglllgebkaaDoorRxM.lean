/-
  Expressions in memory: a forest is a row of nodes, each with the slice of its arguments; whole nodes loaded, laid and stored.
-/
import Derived.Test.YtkalkglllgebkaaDoorBase
import Derived.Test.YtkalkglllgebkaaDoorBig
import Derived.Test.YtkalkglllgebkaaDoorRxP
namespace Go.Proofs.YtkalkglllgebkaaDoor
open Go.RowKit Saw

def exCells (x : Ex) (sv : Value) : List Value := [.int .i64 x.op, .int .i64 x.n, .string (str x.name), sv]
theorem exCells_len (x : Ex) (sv : Value) : (exCells x sv).length = 4 := rfl

/-- The nodes of a forest stand in block b from off on; the blocks of what is below them are of the set S. -/
def FoAt (w : World) (S : Nat → Prop) : Fo → Nat → Nat → Prop
  | .nil, _, _ => True
  | .cons op n nm kids rest, b, off =>
    (w.cell? ⟨b, off, none⟩ = some (.int .i64 op) ∧ w.cell? ⟨b, off + 1, none⟩ = some (.int .i64 n) ∧ w.cell? ⟨b, off + 2, none⟩ = some (.string (str nm)) ∧
      ∃ A c, w.cell? ⟨b, off + 3, none⟩ = some (.slice A kids.toList.length c) ∧ kids.toList.length ≤ c ∧ kids.toList.length ≤ maxLen ∧
        (0 < kids.toList.length → ∃ b' off', A = some ⟨b', off', none⟩ ∧ S b' ∧ FoAt w S kids b' off')) ∧
    FoAt w S rest b (off + 4)
/-- The slice value v reads as the forest f; its blocks are of the set S. -/
def RdFo (w : World) (S : Nat → Prop) (v : Value) (f : Fo) : Prop :=
  ∃ A c, v = .slice A f.toList.length c ∧ f.toList.length ≤ c ∧ f.toList.length ≤ maxLen ∧ (0 < f.toList.length → ∃ b off, A = some ⟨b, off, none⟩ ∧ S b ∧ FoAt w S f b off)
/-- The blocks from lo on, below hi. -/
def Iv (lo hi : Nat) (b : Nat) : Prop := lo ≤ b ∧ b < hi

section
variable {w w' : World} {S S' : Nat → Prop}
theorem FoAt.keep (hk : ∀ p : Addr, S p.block → w'.cell? p = w.cell? p) : ∀ (f : Fo) (b off : Nat), S b → FoAt w S f b off → FoAt w' S f b off
  | .nil, _, _, _, _ => trivial
  | .cons op n nm kids rest, b, off, h1, h => by
    obtain ⟨⟨c0, c1, c2, A, c, c3, l1, l2, h3⟩, h4⟩ := h
    refine ⟨⟨(hk _ h1).trans c0, (hk _ h1).trans c1, (hk _ h1).trans c2, A, c, (hk _ h1).trans c3, l1, l2, fun h0 => ?_⟩, FoAt.keep hk rest b (off + 4) h1 h4⟩
    obtain ⟨b', off', rfl, k1, k3⟩ := h3 h0
    exact ⟨b', off', rfl, k1, FoAt.keep hk kids b' off' k1 k3⟩
theorem FoAt.more (hS : ∀ b, S b → S' b) : ∀ (f : Fo) (b off : Nat), FoAt w S f b off → FoAt w S' f b off
  | .nil, _, _, _ => trivial
  | .cons op n nm kids rest, b, off, h => by
    obtain ⟨⟨c0, c1, c2, A, c, c3, l1, l2, h3⟩, h4⟩ := h
    refine ⟨⟨c0, c1, c2, A, c, c3, l1, l2, fun h0 => ?_⟩, FoAt.more hS rest b (off + 4) h4⟩
    obtain ⟨b', off', rfl, k1, k3⟩ := h3 h0
    exact ⟨b', off', rfl, hS _ k1, FoAt.more hS kids b' off' k3⟩
variable {v : Value} {f : Fo}
theorem RdFo.keep (h : RdFo w S v f) (hk : ∀ p : Addr, S p.block → w'.cell? p = w.cell? p) : RdFo w' S v f := by
  obtain ⟨A, c, rfl, l1, l2, h3⟩ := h
  refine ⟨A, c, rfl, l1, l2, fun h0 => ?_⟩
  obtain ⟨b, off, rfl, k1, k3⟩ := h3 h0
  exact ⟨b, off, rfl, k1, FoAt.keep hk f b off k1 k3⟩
theorem RdFo.more (h : RdFo w S v f) (hS : ∀ b, S b → S' b) : RdFo w S' v f := by
  obtain ⟨A, c, rfl, l1, l2, h3⟩ := h
  refine ⟨A, c, rfl, l1, l2, fun h0 => ?_⟩
  obtain ⟨b, off, rfl, k1, k3⟩ := h3 h0
  exact ⟨b, off, rfl, hS _ k1, FoAt.more hS f b off k3⟩
theorem RdFo.below {B : Nat} (h : RdFo w S v f) (hb : Below B w w') (hB : ∀ b, S b → b < B) : RdFo w' S v f := h.keep fun _ hp => hb.cell (hB _ hp)
/-- What lies below the heap's size stays as it is, and lies below the new size. -/
theorem RdFo.next {lo : Nat} (h : RdFo w (Iv lo w.heap.size) v f) (hb : Below w.heap.size w w') : RdFo w' (Iv lo w'.heap.size) v f :=
  (h.below hb fun _ hp => hp.2).more fun _ hp => ⟨hp.1, Nat.lt_of_lt_of_le hp.2 hb.size⟩
/-- A writing into one block that is none of the forest's. -/
theorem RdFo.gb {rb : Nat} (h : RdFo w S v f) (hg : w.grownBy w' (some rb)) (hS : ∀ b, S b → b ≠ rb ∧ b < w.heap.size) : RdFo w' S v f :=
  h.keep fun p hp => World.cell?_of_block (hg.block p.block (hS _ hp).2 (fun e => by injection e with e; exact (hS _ hp).1 e))
theorem RdFo.setRow (h : RdFo w S v f) {g : Nat} (hS : ∀ b, S b → b ≠ g) (cs : Array Value) : RdFo (w.setRow g cs) S v f :=
  h.keep fun _ hp => World.cell?_of_block (setRow_other _ _ _ _ (hS _ hp))
theorem RdFo.setCell (h : RdFo w S v f) {g i : Nat} (hS : ∀ b, S b → b ≠ g) (u : Value) : RdFo (w.setCell ⟨g, i, none⟩ u) S v f :=
  h.keep fun _ hp => World.cell?_of_block (Below.heap_setCell _ _ _ _ (hS _ hp))
theorem RdFo.alloc (h : RdFo w S v f) (hS : ∀ b, S b → b < w.heap.size) (o : Obj) : RdFo (w.alloc o) S v f := h.below ((Below.refl _ _).alloc (Nat.le_refl _) o) hS
theorem RdFo.form (h : RdFo w S v f) : ∃ A c, v = .slice A f.toList.length c ∧ f.toList.length ≤ c ∧ f.toList.length ≤ maxLen := by
  obtain ⟨A, c, rfl, l1, l2, _⟩ := h
  exact ⟨A, c, rfl, l1, l2⟩
theorem RdFo.oneCell (h : RdFo w S v f) : v.oneCell' = true := by
  obtain ⟨A, c, rfl, _⟩ := h
  rfl
end
theorem RdFo.none_ (w : World) (S : Nat → Prop) : RdFo w S (.slice none 0 0) .nil := ⟨none, 0, rfl, Nat.le_refl _, by simp [Fo.toList], fun h => absurd h (by simp [Fo.toList])⟩
theorem FoAt.at_ {w : World} {S : Nat → Prop} : ∀ (f : Fo) (b off i : Nat) (x : Ex), FoAt w S f b off → f.toList[i]? = some x → ∃ A c, RdFo w S (.slice A x.kids.toList.length c) x.kids ∧ w.rangeAt b (off + i * 4) (exCells x (.slice A x.kids.toList.length c))
  | .nil, _, _, _, _, _, h => by simp [Fo.toList] at h
  | .cons op n nm kids rest, b, off, 0, x, h, hx => by
    rw [Fo.toList, List.getElem?_cons_zero] at hx
    injection hx with hx
    subst hx
    obtain ⟨⟨c0, c1, c2, A, c, c3, l1, l2, h3⟩, _⟩ := h
    refine ⟨A, c, ⟨A, c, rfl, l1, l2, h3⟩, fun j u hj => ?_⟩
    rw [Nat.zero_mul, Nat.add_zero]
    match j, hj with
    | 0, hj => injection hj with hj; subst hj; exact c0
    | 1, hj => injection hj with hj; subst hj; exact c1
    | 2, hj => injection hj with hj; subst hj; exact c2
    | 3, hj => injection hj with hj; subst hj; exact c3
    | n + 4, hj => cases hj
  | .cons op n nm kids rest, b, off, i + 1, x, h, hx => by
    rw [Fo.toList, List.getElem?_cons_succ] at hx
    obtain ⟨A, c, h1, h2⟩ := FoAt.at_ rest b (off + 4) i x h.2 hx
    refine ⟨A, c, h1, ?_⟩
    rw [show off + (i + 1) * 4 = off + 4 + i * 4 by omega]
    exact h2
/-- An element of a slice of expressions: where its cells lie, and its arguments. -/
theorem RdFo.at_ {w : World} {S : Nat → Prop} {n c : Nat} {A : Option Addr} {f : Fo} (h : RdFo w S (.slice A n c) f) {i : Nat} {x : Ex} (hx : f.toList[i]? = some x) :
    ∃ b off A1 c1, A = some ⟨b, off, none⟩ ∧ S b ∧ RdFo w S (.slice A1 x.kids.toList.length c1) x.kids ∧ w.rangeAt b (off + i * 4) (exCells x (.slice A1 x.kids.toList.length c1)) := by
  obtain ⟨A', c', he, _, _, h3⟩ := h
  injection he with e1 e2 e3
  subst e1
  obtain ⟨b, off, rfl, k1, k3⟩ := h3 (by have := (List.getElem?_eq_some_iff.1 hx).1; omega)
  obtain ⟨A1, c1, r1, r2⟩ := FoAt.at_ f b off i x k3 hx
  exact ⟨b, off, A1, c1, rfl, k1, r1, r2⟩
theorem rangeAt4 {w : World} {b o : Nat} {x : Ex} {sv : Value} (h : w.rangeAt b o (exCells x sv)) : w.cell? ⟨b, o, none⟩ = some (.int .i64 x.op) ∧ w.cell? ⟨b, o + 1, none⟩ = some (.int .i64 x.n) ∧ w.cell? ⟨b, o + 2, none⟩ = some (.string (str x.name)) ∧ w.cell? ⟨b, o + 3, none⟩ = some sv :=
  ⟨h 0 _ rfl, h 1 _ rfl, h 2 _ rfl, h 3 _ rfl⟩
theorem rangeAt_of4 {w : World} {b o : Nat} {x : Ex} {sv : Value} (h0 : w.cell? ⟨b, o, none⟩ = some (.int .i64 x.op)) (h1 : w.cell? ⟨b, o + 1, none⟩ = some (.int .i64 x.n)) (h2 : w.cell? ⟨b, o + 2, none⟩ = some (.string (str x.name))) (h3 : w.cell? ⟨b, o + 3, none⟩ = some sv) : w.rangeAt b o (exCells x sv) := fun j u hj => by
  match j, hj with
  | 0, hj => injection hj with hj; subst hj; exact h0
  | 1, hj => injection hj with hj; subst hj; exact h1
  | 2, hj => injection hj with hj; subst hj; exact h2
  | 3, hj => injection hj with hj; subst hj; exact h3
  | n + 4, hj => cases hj
/-- A node whose cells lie in a block of the row. -/
theorem FoAt.cons_ {w : World} {S : Nat → Prop} {b off : Nat} {x : Ex} {rest : Fo} {sv : Value} (h : w.rangeAt b off (exCells x sv)) (hk : RdFo w S sv x.kids) (hr : FoAt w S rest b (off + 4)) : FoAt w S (.cons x.op x.n x.name x.kids rest) b off := by
  obtain ⟨h0, h1, h2, h3⟩ := rangeAt4 h
  obtain ⟨A, c, rfl, l1, l2, h4⟩ := hk
  exact ⟨⟨h0, h1, h2, A, c, h3, l1, l2, h4⟩, hr⟩
/-- A slice of one argument, and of two. -/
theorem RdFo.one_ {w : World} {S : Nat → Prop} {b c : Nat} {x : Ex} {sv : Value} (h : w.rangeAt b 0 (exCells x sv)) (hS : S b) (hk : RdFo w S sv x.kids) (hc : 1 ≤ c) : RdFo w S (.slice (some ⟨b, 0, none⟩) 1 c) (.cons x.op x.n x.name x.kids .nil) :=
  ⟨_, c, rfl, hc, by show 1 ≤ maxLen; unfold maxLen; decide, fun _ => ⟨b, 0, rfl, hS, FoAt.cons_ h hk trivial⟩⟩
theorem RdFo.two_ {w : World} {S : Nat → Prop} {b c : Nat} {x y : Ex} {sv tv : Value} (h : w.rangeAt b 0 (exCells x sv)) (h' : w.rangeAt b 4 (exCells y tv)) (hS : S b) (hk : RdFo w S sv x.kids) (hk' : RdFo w S tv y.kids) (hc : 2 ≤ c) :
    RdFo w S (.slice (some ⟨b, 0, none⟩) 2 c) (.cons x.op x.n x.name x.kids (.cons y.op y.n y.name y.kids .nil)) :=
  ⟨_, c, rfl, hc, by show 2 ≤ maxLen; unfold maxLen; decide, fun _ => ⟨b, 0, rfl, hS, FoAt.cons_ h hk (FoAt.cons_ (by simpa using h') hk' trivial)⟩⟩
/-- The block of two nodes that was made last. -/
theorem rangeAt_two (w : World) (x y : Ex) (sv tv : Value) (t : TypeId) : (w.alloc (.cells #[.int .i64 x.op, .int .i64 x.n, .string (str x.name), sv, .int .i64 y.op, .int .i64 y.n, .string (str y.name), tv] t)).rangeAt w.heap.size 0 (exCells x sv) ∧ (w.alloc (.cells #[.int .i64 x.op, .int .i64 x.n, .string (str x.name), sv, .int .i64 y.op, .int .i64 y.n, .string (str y.name), tv] t)).rangeAt w.heap.size 4 (exCells y tv) := by
  have h := rangeAt_block (heap_alloc_last w (.cells #[.int .i64 x.op, .int .i64 x.n, .string (str x.name), sv, .int .i64 y.op, .int .i64 y.n, .string (str y.name), tv] t))
  exact ⟨rangeAt_of4 (h 0 _ rfl) (h 1 _ rfl) (h 2 _ rfl) (h 3 _ rfl), rangeAt_of4 (h 4 _ rfl) (h 5 _ rfl) (h 6 _ rfl) (h 7 _ rfl)⟩
theorem rangeAt_one (w : World) (x : Ex) (sv : Value) (t : TypeId) : (w.alloc (.cells #[.int .i64 x.op, .int .i64 x.n, .string (str x.name), sv] t)).rangeAt w.heap.size 0 (exCells x sv) :=
  rangeAt_block (heap_alloc_last w (.cells #[.int .i64 x.op, .int .i64 x.n, .string (str x.name), sv] t))

theorem ex_info : (Tryd.prog.info? 24).map (·.size) = some 4 := by kernel_rfl
theorem ex_zero : ((Tryd.prog.info? 24).bind (·.zero)) = some (.agg #[.int .i64 0, .int .i64 0, .string ⟨#[]⟩, .slice none 0 0]) := by kernel_rfl

theorem ex_one (x : Ex) {sv : Value} (h1 : sv.oneCell' = true) : (#[.int .i64 x.op, .int .i64 x.n, .string (str x.name), sv] : Array Value).toList.all (·.oneCell') = true := by
  simp only [List.all_cons, List.all_nil, h1, Bool.and_true]
  rfl
section
variable {ops : Array Oper} {rest : List Oper} {d : Option Tmp} {ty : TypeId} {pos : String} {af : Array Edge} {a : Act} {w : World} {Q : Exit → Act → World → Prop} {p q : Operand}
theorem ex_load (b o : Nat) (x : Ex) (sv : Value) (hx : a.eval p = .pointer (some ⟨b, o, none⟩)) (hc : w.rangeAt b o (exCells x sv))
    (h : wpList Tryd.prog ops Q rest (a.put d (.agg #[.int .i64 x.op, .int .i64 x.n, .string (str x.name), sv])) w) : wpList Tryd.prog ops Q (⟨d, .load 24 p, ty, pos, af, none⟩ :: rest) a w :=
  wpList_loadAs b o (exCells x sv) hx hc Tryd.underlying24 rfl ex_info h
theorem ex_put (g : Nat) (x : Ex) (sv : Value) (h1 : sv.oneCell' = true) (hx : a.eval p = .pointer (some ⟨g, 0, none⟩)) (hy : a.eval q = .agg #[.int .i64 x.op, .int .i64 x.n, .string (str x.name), sv]) {old : Array Value} {t' : TypeId} (hg : w.heap[g]? = some (.cells old t' (0, 0))) (hs : Hid (old.size = 4))
    (h : wpList Tryd.prog ops Q rest (a.put d undef) (w.setRow g #[.int .i64 x.op, .int .i64 x.n, .string (str x.name), sv])) : wpList Tryd.prog ops Q (⟨d, .store 24 p q, ty, pos, af, none⟩ :: rest) a w :=
  wpList_storeOld g _ hx hy hg ex_info (hs.out.trans rfl) (ex_one x h1) h
end
/-- An expression's value. -/
def exV (x : Ex) (sv : Value) : Value := .agg #[.int .i64 x.op, .int .i64 x.n, .string (str x.name), sv]
/-- The one result of a function, an expression that lies in a block of its own. -/
theorem ex_res {fn : Func} {p : Tmp} (h : fn.results = #[.cell p 24]) (tmps : Array Value) (W : World) (g : Nat) {x : Ex} {sv : Value} (hp : tmps.getD p undef = .pointer (some ⟨g, 0, none⟩)) {t : TypeId} {fr : Nat × Nat} (hg : W.heap[g]? = some (.cells #[.int .i64 x.op, .int .i64 x.n, .string (str x.name), sv] t fr)) :
    (results fn tmps).run Tryd.prog W = .ok (exV x sv) W :=
  results_cell1 h tmps W g 0 (exCells x sv) hp (rangeAt_block hg) Tryd.underlying24 rfl ex_info

end Go.Proofs.YtkalkglllgebkaaDoor
