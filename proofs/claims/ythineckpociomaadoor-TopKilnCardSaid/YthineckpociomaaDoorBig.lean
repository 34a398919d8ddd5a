/-
  Laws for operations on great arrays and structs by value: build, alloc, store, each with its cells kept as a variable.
-/
import Derived.Test.YthineckpociomaaDoorRd
import Derived.Laws.Tables
import Derived.Deep.WholeRow
import Derived.Deep.MidRow
import Derived.Great.BuildSlice
namespace Go.RowKit

/-- A literal, its value a variable. -/
theorem wpList_buildAs {P : Program} {ops : Array Oper} {rest : List Oper} {d : Option Tmp} {t : TypeId} {ty : TypeId} {pos : String} {af : Array Edge} {a : Act} {w : World} {Q : Exit → Act → World → Prop} {ps : Array (Nat × Operand)} (cs : Array Value)
    (hf : P.built t ((ps.map fun (i, x) => (i, a.eval x)).toList) = some cs) (h : ∀ arr, arr = cs → wpList P ops Q rest (a.put d (.agg arr)) w) : wpList P ops Q (⟨d, .build t ps, ty, pos, af, none⟩ :: rest) a w := by
  refine wpList_plain rfl fun _ hK => ?_
  unfold Oper.wp execOp
  simp only [Sem.run_bind]
  rw [run_build w t _ _ hf, Result.andThen_ok]
  exact hK _ _ (h _ rfl)

/-- A new variable of a type, its zero cells a variable. -/
theorem wpList_allocAs {P : Program} {ops : Array Oper} {rest : List Oper} {d : Option Tmp} {t : TypeId} {ty : TypeId} {pos : String} {af : Array Edge} {a : Act} {w : World} {Q : Exit → Act → World → Prop} (z : Array Value)
    (hz : ((P.info? t).bind (·.zero)) = some (.agg z)) (h : ∀ c : Array Value, c = z → wpList P ops Q rest (a.put d (.pointer (some ⟨w.heap.size, 0, none⟩))) (w.alloc (.cells c t))) : wpList P ops Q (⟨d, .alloc t, ty, pos, af, none⟩ :: rest) a w := by
  refine wpList_plain rfl fun _ hK => ?_
  unfold Oper.wp execOp
  cases hi : P.info? t with
  | none => simp [hi] at hz
  | some i =>
    simp only [hi, Option.bind_some] at hz
    have hzz : (zeroValue t).run P w = .ok (.agg z) w := by simp [zeroValue, typeInfo, hi, hz]
    have hr : (Instr.alloc t true (.tuple #[])).run P w = .ok (.pointer (some ⟨w.heap.size, 0, none⟩)) (w.alloc (.cells z t)) := by
      simp [Instr.alloc, hzz, newVar, newRow, Value.cells]
    simp only [Sem.run_bind, hr, Result.andThen_ok]
    exact hK _ _ (h _ rfl)

/-- A whole value stored into the block that was made last. -/
theorem wpList_storeNew {P : Program} {ops : Array Oper} {rest : List Oper} {d : Option Tmp} {t : TypeId} {ty : TypeId} {pos : String} {af : Array Edge} {a : Act} {Q : Exit → Act → World → Prop} {x y : Operand}
    {W : World} {N : Nat} {c c' : Array Value} (hx : a.eval x = .pointer (some ⟨N, 0, none⟩)) (hN : W.heap.size = N) (hy : a.eval y = .agg c') (hi : (P.info? t).map (·.size) = some c'.size) (hs : c.size = c'.size) (h1 : c'.toList.all (·.oneCell') = true)
    (h : wpList P ops Q rest (a.put d undef) (W.alloc (.cells c' t))) : wpList P ops Q (⟨d, .store t x y, ty, pos, af, none⟩ :: rest) a (W.alloc (.cells c t)) :=
  wpList_plain rfl fun _ hK => by
    subst hN
    rw [Array.all_toList] at h1
    unfold Oper.wp execOp
    simp only [hx, hy, Sem.run_bind, Sem.run_pure, Result.andThen_ok, run_storeAt_new W t c c' hi hs h1]
    exact hK _ _ h

/-- A whole value loaded out of the middle of a block. -/
theorem wpList_loadAs {P : Program} {ops : Array Oper} {rest : List Oper} {d : Option Tmp} {t : TypeId} {ty : TypeId} {pos : String} {af : Array Edge} {a : Act} {w : World} {Q : Exit → Act → World → Prop} {x : Operand}
    (b o : Nat) (cs : List Value) (hx : a.eval x = .pointer (some ⟨b, o, none⟩)) (hc : w.rangeAt b o cs) {td : TypeDesc} (hu : P.underlying t = some td) (hd : td.isRow = true) (hi : (P.info? t).map (·.size) = some cs.length)
    (h : wpList P ops Q rest (a.put d (.agg cs.toArray)) w) : wpList P ops Q (⟨d, .load t x, ty, pos, af, none⟩ :: rest) a w :=
  wpList_load_mid rfl t x rfl b o hx cs td hc hu hd hi h

/-- A whole value stored into a block of its own. -/
theorem wpList_storeOld {P : Program} {ops : Array Oper} {rest : List Oper} {d : Option Tmp} {t : TypeId} {ty : TypeId} {pos : String} {af : Array Edge} {a : Act} {w : World} {Q : Exit → Act → World → Prop} {x y : Operand}
    (g : Nat) (c' : Array Value) (hx : a.eval x = .pointer (some ⟨g, 0, none⟩)) (hy : a.eval y = .agg c') {old : Array Value} {t' : TypeId} (hg : w.heap[g]? = some (.cells old t' (0, 0))) (hi : (P.info? t).map (·.size) = some c'.size) (hs : old.size = c'.size) (h1 : c'.toList.all (·.oneCell') = true)
    (h : wpList P ops Q rest (a.put d undef) (w.setRow g c')) : wpList P ops Q (⟨d, .store t x y, ty, pos, af, none⟩ :: rest) a w :=
  wpList_store_row rfl t x y rfl g c' hx hy t' old hg hi hs (by rw [Array.all_toList] at h1; exact h1) h

theorem Below.setRow {B : Nat} {a w : World} (h : Below B a w) {g : Nat} (hg : B ≤ g) (cs : Array Value) : Below B a (w.setRow g cs) :=
  h.trans ⟨rfl, rfl, rfl, by simp, fun k hk => setRow_other _ _ _ _ (by omega)⟩

theorem rangeAt_block {w : World} {g : Nat} {cs : Array Value} {t : TypeId} {fr : Nat × Nat} (h : w.heap[g]? = some (.cells cs t fr)) : w.rangeAt g 0 cs.toList := fun j v hv => by
  rw [Nat.zero_add, cell_of_row w g j cs t fr h]
  simpa using hv
theorem rangeAt_below {B : Nat} {w w' : World} (hb : Below B w w') {b o : Nat} {cs : List Value} (hlt : b < B) (h : w.rangeAt b o cs) : w'.rangeAt b o cs := fun j v hv => (hb.cell (p := ⟨b, o + j, none⟩) hlt).trans (h j v hv)
theorem rangeAt_alloc {w : World} {b o : Nat} {cs : List Value} (hlt : b < w.heap.size) (h : w.rangeAt b o cs) (ob : Obj) : (w.alloc ob).rangeAt b o cs := rangeAt_below ((Below.refl _ _).alloc (Nat.le_refl _) ob) hlt h

/-- The results of a function, the first of which lies in a block of its own. -/
theorem results_cell2 {P : Program} {fn : Func} {p q : Tmp} {ty : TypeId} (h : fn.results = #[.cell p ty, .tmp q]) (tmps : Array Value) (w : World) (g o : Nat) (cs : List Value) {td : TypeDesc}
    (hp : tmps.getD p undef = .pointer (some ⟨g, o, none⟩)) (hc : w.rangeAt g o cs) (hu : P.underlying ty = some td) (hd : td.isRow = true) (hi : (P.info? ty).map (·.size) = some cs.length) (v : Value) (hq : tmps.getD q undef = v) :
    (results fn tmps).run P w = .ok (.tuple #[.agg cs.toArray, v]) w := by
  have hp' : tmps[p]?.getD undef = .pointer (some ⟨g, o, none⟩) := by simpa using hp
  have hq' : tmps[q]?.getD undef = v := by simpa using hq
  simp [results, h, hp', hq', asAddr, run_loadVar_mid w g o ty cs td hc hu hd hi]
theorem results_cell1 {P : Program} {fn : Func} {p : Tmp} {ty : TypeId} (h : fn.results = #[.cell p ty]) (tmps : Array Value) (w : World) (g o : Nat) (cs : List Value) {td : TypeDesc}
    (hp : tmps.getD p undef = .pointer (some ⟨g, o, none⟩)) (hc : w.rangeAt g o cs) (hu : P.underlying ty = some td) (hd : td.isRow = true) (hi : (P.info? ty).map (·.size) = some cs.length) :
    (results fn tmps).run P w = .ok (.agg cs.toArray) w := by
  have hp' : tmps[p]?.getD undef = .pointer (some ⟨g, o, none⟩) := by simpa using hp
  simp [results, h, hp', asAddr, run_loadVar_mid w g o ty cs td hc hu hd hi]

/-- An element of a slice of rows: where its cells lie. -/
theorem Rd.rangeAt {w : World} {B size n m c : Nat} {A : Option Addr} {xs : List Value} (h : Rd w B size (.slice A m c) n xs) {i : Nat} (hi : i < n) {cs : List Value} (hcs : cs.length = size) (hat : ∀ j, j < size → xs[i * size + j]? = cs[j]?) :
    ∃ b off, A = some ⟨b, off, none⟩ ∧ b < B ∧ w.rangeAt b (off + i * size) cs := by
  obtain ⟨_, _, A', c', he, _, h3⟩ := h
  injection he with h1 h2 h4
  subst h1
  obtain ⟨b, off, rfl, hb, hcell⟩ := h3 (by omega)
  refine ⟨b, off, rfl, hb, fun j v hv => ?_⟩
  rw [Nat.add_assoc]
  exact hcell _ _ ((hat j (by rw [← hcs]; exact (List.getElem?_eq_some_iff.1 hv).1)).trans hv)

theorem Below.setCells {B : Nat} {a : World} {g : Nat} (hg : B ≤ g) : ∀ (vs : List Value) (o : Nat) {w : World}, Below B a w → Below B a (w.setCells g o vs)
  | [], _, _, h => h
  | v :: r, o, _, h => Below.setCells hg r (o + 1) (h.setCell (p := ⟨g, o, none⟩) hg v)
theorem there_block {w : World} {g n : Nat} {cs : Array Value} {t : TypeId} (h : w.heap[g]? = some (.cells cs t (0, 0))) (hn : cs.size = n) : w.there g 0 n := fun j hj => by
  rw [Nat.zero_add, cell_of_row w g j cs t (0, 0) h]
  refine ⟨?_, ?_⟩
  · rw [Array.getElem?_eq_getElem (by omega)]; rfl
  · simp [World.frozen?, h]
theorem there_below {B : Nat} {w w' : World} (hb : Below B w w') {g o n : Nat} (hg : g < B) (h : w.there g o n) : w'.there g o n := fun j hj => by
  have := h j hj
  rw [hb.cell (p := ⟨g, o + j, none⟩) hg, hb.frozen (p := ⟨g, o + j, none⟩) hg]
  exact this
theorem run_store_there {P : Program} (W : World) (g : Nat) (cs : List Value) (n : Nat) (hn : cs.length = n) (h1 : ∀ v ∈ cs, v.oneCell' = true) (ht : W.there g 0 n) : (storeCells ⟨g, 0, none⟩ cs).run P W = .ok () (W.setCells g 0 cs) := by
  subst hn
  have := run_storeCells_cells (P := P) g 0 cs 0 W (fun j hj => by simpa using (ht j hj).1) (fun j hj => by simpa using (ht j hj).2) h1
  simpa using this

/-- A slice literal, its cells a variable. -/
theorem wpList_sliceAs {P : Program} {ops : Array Oper} {rest : List Oper} {d : Option Tmp} {t : TypeId} {ty : TypeId} {pos : String} {af : Array Edge} {a : Act} {w : World} {Q : Exit → Act → World → Prop} {len : Nat} {ps : Array (Nat × Operand)} {e : TypeId} {z : Value} (n : Nat) (cs : Array Value)
    (hu : P.underlying t = some (.slice e)) (hsz : (P.info? e).map (·.size) = some n) (hz : ((P.info? e).bind (·.zero)) = some z) (hsmall : ¬ len * n > 2 ^ 24) (hpos : ¬ len * n = 0)
    (hf : Instr.fill (fun i => some (i * n, n)) ((Array.range (len * n)).map (z.cells[· % z.cells.size]!)) (ps.map fun (i, x) => (i, a.eval x)).toList = some cs)
    (h : ∀ arr, arr = cs → wpList P ops Q rest (a.put d (.slice (some ⟨w.heap.size, 0, none⟩) len len)) (w.alloc (.cells arr e))) : wpList P ops Q (⟨d, .buildSlice t len ps, ty, pos, af, none⟩ :: rest) a w := by
  cases hi : P.info? e with
  | none => simp [hi] at hsz
  | some ie =>
    simp only [hi, Option.map_some, Option.some.injEq, Option.bind_some] at hsz hz
    subst hsz
    exact wpList_buildSlice rfl t e len ps rfl cs ie z hu hi hz hsmall hpos hf (h cs rfl)
/-- A new row is one that the call owns. -/
theorem ownsRow_new {w : World} {base len size : Nat} {e : TypeId} {cs : List Value} (hb : base ≤ w.heap.size) (hl : cs.length = len * size) (hm : len ≤ maxLen) : (w.alloc (.cells cs.toArray e)).ownsRow base e size (.slice (some ⟨w.heap.size, 0, none⟩) len len) len cs := by
  refine ⟨hl, .inr ⟨w.heap.size, len, cs.toArray, rfl, hb, heap_alloc_last w _, Nat.le_refl _, hm, by simp [hl], ?_⟩⟩
  simp [List.take_of_length_le, hl]

section
variable {w w' w'' : World} {row : Option Nat}
theorem gb_refl : w.grownBy w row := ⟨rfl, rfl, rfl, Nat.le_refl _, fun _ _ _ => rfl⟩
theorem gb_drew (h : w.grownBy w' row) : w.grownBy w'.drew row := ⟨h.os, h.tape, h.output, h.size, h.block⟩
theorem gb_drewN (h : w.grownBy w' row) (n : Nat) : w.grownBy (w'.drewN n) row := ⟨h.os, h.tape, h.output, h.size, h.block⟩
theorem gb_of_drewN {n : Nat} (h : (w.drewN n).grownBy w' row) : w.grownBy w' row := ⟨h.os, h.tape, h.output, h.size, h.block⟩
theorem gb_of_drew (h : w.drew.grownBy w' row) : w.grownBy w' row := ⟨h.os, h.tape, h.output, h.size, h.block⟩
theorem gb_alloc (h : w.grownBy w' row) (o : Obj) : w.grownBy (w'.alloc o) row :=
  ⟨h.os, h.tape, h.output, by have := h.size; rw [World.size_alloc]; omega, fun k hk hne => (Below.heap_alloc _ _ _ (Nat.lt_of_lt_of_le hk h.size)).trans (h.block k hk hne)⟩
theorem gb_trans (h : w.grownBy w' row) (h' : w'.grownBy w'' row) : w.grownBy w'' row :=
  ⟨h'.os.trans h.os, h'.tape.trans h.tape, h'.output.trans h.output, Nat.le_trans h.size h'.size, fun k hk hne => (h'.block k (Nat.lt_of_lt_of_le hk h.size) hne).trans (h.block k hk hne)⟩
theorem gb_below (h : w.grownBy w' row) (h' : Below w'.heap.size w' w'') : w.grownBy w'' row :=
  ⟨h'.os.trans h.os, h'.tape.trans h.tape, h'.output.trans h.output, Nat.le_trans h.size h'.size, fun k hk hne => (h'.block k (Nat.lt_of_lt_of_le hk h.size)).trans (h.block k hk hne)⟩
theorem gb_set {rb o : Nat} (h : w.grownBy w' (some rb)) (v : Value) : w.grownBy (w'.setCell ⟨rb, o, none⟩ v) (some rb) :=
  ⟨h.os, h.tape, h.output, by simpa [World.setCell] using h.size, fun k hk hne => (Below.heap_setCell _ _ _ _ (fun e => hne (congrArg some e))).trans (h.block k hk hne)⟩
theorem gb_setRow {g : Nat} (h : w.grownBy w' row) (hg : some g = row ∨ w.heap.size ≤ g) (cs : Array Value) : w.grownBy (w'.setRow g cs) row :=
  ⟨h.os, h.tape, h.output, by simpa using h.size, fun k hk hne => (setRow_other _ _ _ _ (fun e => by rcases hg with hg | hg; exact hne (by rw [e]; exact hg); omega)).trans (h.block k hk hne)⟩
theorem gb_setOther {g o : Nat} (h : w.grownBy w' row) (hg : w.heap.size ≤ g) (v : Value) : w.grownBy (w'.setCell ⟨g, o, none⟩ v) row :=
  ⟨h.os, h.tape, h.output, by simpa [World.setCell] using h.size, fun k hk hne => (Below.heap_setCell _ _ _ _ (fun e => by have : k = g := e; omega)).trans (h.block k hk hne)⟩
theorem below_of_gb {B rb : Nat} {a : World} (h : Below B a w) (h' : w.grownBy w' (some rb)) (hB : B ≤ w.heap.size) (hr : B ≤ rb) : Below B a w' := h.grown h' hB (fun k hk => by injection hk with hk; omega)
theorem Rd.gb {rb B size n : Nat} {v : Value} {xs : List Value} (h : Rd w B size v n xs) (hg : w.grownBy w' (some rb)) (hB : B ≤ rb) (hs : B ≤ w.heap.size) : Rd w' B size v n xs :=
  h.keep fun p hp => World.cell?_of_block (hg.block p.block (Nat.lt_of_lt_of_le hp hs) (fun e => by injection e with e; omega))
end

end Go.RowKit
