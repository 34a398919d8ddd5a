/-
  What the rows' condition on package-level variables gives the walks (chapter 44), and a world that meets it; arguments opened.
-/
import Derived.Test.YtkalkglllgebkaaDoorRow
import Derived.Test.YtkalkglllgebkaaDoorRyF
import Derived.LaidMore
import Derived.Stop.Joined
import Derived.Lib.LaidTab
namespace Go.Proofs.YtkalkglllgebkaaDoor
open Go.ChangeShapes Go.WideShapes Go.ChangeAt Go.RowKit Saw

theorem fo_build {w : World} {S : Nat → Prop} : ∀ (k b off : Nat), (∀ i, i < k → ∃ (x : Ex) (sv : Value), w.rangeAt b (off + i * 4) (exCells x sv) ∧ RdFo w S sv x.kids) → ∃ f : Fo, f.toList.length = k ∧ FoAt w S f b off
  | 0, _, _, _ => ⟨.nil, rfl, trivial⟩
  | k + 1, b, off, h => by
    obtain ⟨x, sv, h1, A, c, rfl, l1, l2, h3⟩ := h 0 (by omega)
    rw [Nat.zero_mul, Nat.add_zero] at h1
    obtain ⟨f, hf, hfa⟩ := fo_build k b (off + 4) (fun i hi => by have := h (i + 1) (by omega); rwa [show off + (i + 1) * 4 = off + 4 + i * 4 by omega] at this)
    obtain ⟨e0, e1, e2, e3⟩ := rangeAt4 h1
    exact ⟨.cons x.op x.n x.name x.kids f, by rw [Fo.toList, List.length_cons, hf], ⟨e0, e1, e2, A, c, e3, l1, l2, h3⟩, hfa⟩

theorem cells_ex : Tryd.prog.cellsOf 24 = 4 := by kernel_rfl
theorem cells_int : Tryd.prog.cellsOf 3 = 1 := by kernel_rfl
theorem cells_strg : Tryd.prog.cellsOf 9 = 1 := by kernel_rfl
theorem cells_exs : Tryd.prog.cellsOf 22 = 1 := by kernel_rfl

set_option maxRecDepth 100000 in
theorem row_ex {H : Type} {enc : TypeId × Value → H} {w : World} {spare : Nat → Bool} {held : Bool} {N n : Nat} (ih : ∀ m, m < N → ∀ (v : Value) (y : DataW H × List MemPlace), DataW.trod enc Tryd.prog w 0 spare held m 22 [v] = some y → ∃ f, RdFo w (Iv 0 w.heap.size) v f)
    (hn : n ≤ N) {r : List Value} {y : DataW H × List MemPlace} (h : DataW.trod enc Tryd.prog w 0 spare held n 24 r = some y) : ∃ (x : Ex) (sv : Value), r = exCells x sv ∧ RdFo w (Iv 0 w.heap.size) sv x.kids := by
  obtain ⟨xs, m, hnm, _, hlen, hxl, hf⟩ := DataW.trod_struct Tryd.underlying24 h
  rw [cells_ex] at hlen
  match r, hlen, xs, hxl, hf with
  | [u0, u1, u2, u3], _, [x0, x1, x2, x3], _, hf =>
    have h0 : DataW.trod enc Tryd.prog w 0 spare held m 3 (([u0, u1, u2, u3].drop 0).take (Tryd.prog.cellsOf 3)) = some x0 := hf 0 _ rfl
    have h1 : DataW.trod enc Tryd.prog w 0 spare held m 3 (([u0, u1, u2, u3].drop 1).take (Tryd.prog.cellsOf 3)) = some x1 := hf 1 _ rfl
    have h2 : DataW.trod enc Tryd.prog w 0 spare held m 9 (([u0, u1, u2, u3].drop 2).take (Tryd.prog.cellsOf 9)) = some x2 := hf 2 _ rfl
    have h3 : DataW.trod enc Tryd.prog w 0 spare held m 22 (([u0, u1, u2, u3].drop 3).take (Tryd.prog.cellsOf 22)) = some x3 := hf 3 _ rfl
    rw [cells_int] at h0 h1
    rw [cells_strg] at h2
    rw [cells_exs] at h3
    obtain ⟨n0, e0, _, _⟩ := DataW.trod_int Tryd.underlying3 h0
    obtain ⟨n1, e1, _, _⟩ := DataW.trod_int Tryd.underlying3 h1
    obtain ⟨s, e2, _, _⟩ := DataW.trod_string Tryd.underlying9 h2
    obtain ⟨f, hfo⟩ := ih m (by omega) u3 x3 h3
    simp only [List.drop_zero, List.drop_succ_cons, List.take_succ_cons, List.take_zero, List.cons.injEq, and_true] at e0 e1 e2
    subst e0 e1 e2
    exact ⟨⟨n0, n1, bts s, f⟩, u3, by rw [exCells, str_bts], hfo⟩

theorem open_fo {H : Type} {enc : TypeId × Value → H} {w : World} {spare : Nat → Bool} {held : Bool} : ∀ (N fuel : Nat), fuel ≤ N → ∀ (v : Value) (y : DataW H × List MemPlace), DataW.trod enc Tryd.prog w 0 spare held fuel 22 [v] = some y → ∃ f, RdFo w (Iv 0 w.heap.size) v f := by
  intro N
  induction N with
  | zero =>
    intro fuel hN v y h
    obtain rfl : fuel = 0 := by omega
    simp [DataW.trod] at h
  | succ N ih =>
    intro fuel hN v y h
    rcases DataW.trod_slice Tryd.underlying22 h with ⟨h0, _⟩ | ⟨a, len, cap, elems, rest, n, hfn, hcs, _, _, hl, hm, hlen, hel, _, _⟩
    · injection h0 with h0
      subst h0
      exact ⟨.nil, RdFo.none_ _ _⟩
    · injection hcs with hcs
      subst hcs
      have hrow : ∀ i, i < len → ∃ (x : Ex) (sv : Value), w.cells? 0 (a.add (i * 4)) 4 = some (exCells x sv) ∧ RdFo w (Iv 0 w.heap.size) sv x.kids := fun i hi => by
        have h1 := hel i hi
        rw [cells_ex, List.getElem?_eq_getElem (by omega)] at h1
        obtain ⟨r, hr, ht⟩ := Option.bind_eq_some_iff.1 h1
        obtain ⟨x, sv, rfl, hx⟩ := row_ex (N := n) (fun m hm v y h => ih m (by omega) v y h) (Nat.le_refl _) ht
        exact ⟨x, sv, hr, hx⟩
      by_cases h0 : len = 0
      · subst h0
        exact ⟨.nil, some a, cap, rfl, Nat.zero_le _, Nat.zero_le _, fun h => absurd h (by decide)⟩
      · have hcell : ∀ i (hi : i < len), ∃ (x : Ex) (sv : Value), (∀ j, j < 4 → w.cell? (a.add (i * 4 + j)) = (exCells x sv)[j]?) ∧ RdFo w (Iv 0 w.heap.size) sv x.kids := fun i hi => by
          obtain ⟨x, sv, h1, h2⟩ := hrow i hi
          refine ⟨x, sv, fun j hj => ?_, h2⟩
          have := (World.cells?_some h1).2.2 j hj
          rwa [Deep.add_add] at this
        obtain ⟨x0, sv0, hc0, _⟩ := hcell 0 (by omega)
        have hu0 := hc0 0 (by decide)
        rw [Nat.zero_mul, Nat.zero_add] at hu0
        have hu1 : w.cell? (a.add 0) = some (.int .i64 x0.op) := hu0
        obtain ⟨b, off, spot⟩ := a
        have hspot : spot = none := by simpa [Addr.add] using World.cell?_spot hu1
        subst hspot
        have hbl : b < w.heap.size := World.block_lt_of_cell? (w := w) (a := ⟨b, off, none⟩) (by simpa [Addr.add] using hu1)
        obtain ⟨f, hfl, hfa⟩ := fo_build (w := w) (S := Iv 0 w.heap.size) len b off (fun i hi => by
          obtain ⟨x, sv, h1, h2⟩ := hcell i hi
          refine ⟨x, sv, fun j u hj => ?_, h2⟩
          have hj4 : j < 4 := by have := (List.getElem?_eq_some_iff.1 hj).1; simpa [exCells] using this
          have h3 := h1 j hj4
          rw [Go.WideShapes.add_plain] at h3
          rw [Nat.add_assoc, h3, hj])
        exact ⟨f, some ⟨b, off, none⟩, cap, by rw [hfl], by omega, by omega, fun _ => ⟨b, off, rfl, ⟨Nat.zero_le _, hbl⟩, hfa⟩⟩

/-- An expression that is handed in by value. -/
def ExArg (w : World) (x : Ex) (A : Option Addr) (c : Nat) : Prop := RdFo w (Iv 0 w.heap.size) (.slice A x.kids.toList.length c) x.kids
set_option maxRecDepth 100000 in
theorem open_ex {H : Type} {enc : TypeId × Value → H} {W : World} {r : Reach} {b0 : Nat} {v : Value} {d : DataW H} {p : List MemPlace} (hv : Value.okWide Tryd.prog W r b0 24 v)
    (h : DataW.Trod enc Tryd.prog W 0 (fun _ => true) true 24 v d p) :
    ∃ (x : Ex) (A : Option Addr) (c : Nat), v = .agg #[.int .i64 x.op, .int .i64 x.n, .string (str x.name), .slice A x.kids.toList.length c] ∧ ExArg W x A c := by
  obtain ⟨cs, rfl, _⟩ := okWide_struct Tryd.underlying24 hv
  obtain ⟨fuel, hf⟩ := h
  obtain ⟨x, sv, hx, hfo⟩ := row_ex (N := fuel) (fun m hm v y h => open_fo m m (Nat.le_refl _) v y h) (Nat.le_refl _) (show DataW.trod enc Tryd.prog W 0 (fun _ => true) true fuel 24 cs.toList = some _ from hf)
  obtain ⟨A1, c1, rfl, _, _⟩ := hfo.form
  refine ⟨x, A1, c1, ?_, hfo⟩
  congr 1
  exact Array.ext' hx

theorem cells_rl : Tryd.prog.cellsOf 58 = 5 := by kernel_rfl
set_option maxRecDepth 100000 in
theorem row_rl {H : Type} {enc : TypeId × Value → H} {w : World} {spare : Nat → Bool} {held : Bool} {n : Nat} {r : List Value} {y : DataW H × List MemPlace} (h : DataW.trod enc Tryd.prog w 0 spare held n 58 r = some y) :
    ∃ (x : Rl) (sv : Value), r = rlCells x sv ∧ RdFo w (Iv 0 w.heap.size) sv x.when_.kids := by
  obtain ⟨xs, m, hnm, _, hlen, hxl, hf⟩ := DataW.trod_struct Tryd.underlying58 h
  rw [cells_rl] at hlen
  match r, hlen, xs, hxl, hf with
  | [u0, u1, u2, u3, u4], _, [x0, x1], _, hf =>
    have h0 : DataW.trod enc Tryd.prog w 0 spare held m 3 (([u0, u1, u2, u3, u4].drop 0).take (Tryd.prog.cellsOf 3)) = some x0 := hf 0 _ rfl
    have h1 : DataW.trod enc Tryd.prog w 0 spare held m 24 (([u0, u1, u2, u3, u4].drop 1).take (Tryd.prog.cellsOf 24)) = some x1 := hf 1 _ rfl
    rw [cells_int] at h0
    rw [cells_ex] at h1
    obtain ⟨n0, e0, _, _⟩ := DataW.trod_int Tryd.underlying3 h0
    obtain ⟨x, sv, e1, hx⟩ := row_ex (N := m) (fun m hm v y h => open_fo m m (Nat.le_refl _) v y h) (Nat.le_refl _) h1
    simp only [List.drop_zero, List.drop_succ_cons, List.take_succ_cons, List.take_zero, List.cons.injEq, and_true] at e0 e1
    subst e0
    exact ⟨⟨n0, x⟩, sv, congrArg (Value.int .i64 n0 :: ·) e1, hx⟩
theorem rows_rls (w : World) : ∀ (rows : List (List Value)), (∀ r ∈ rows, ∃ (x : Rl) (sv : Value), r = rlCells x sv ∧ RdFo w (Iv 0 w.heap.size) sv x.when_.kids) →
    ∃ m : List (Rl × Value), m.length = rows.length ∧ rows.flatten = rlsCells m ∧ ∀ y ∈ m, RdFo w (Iv 0 w.heap.size) y.2 y.1.when_.kids
  | [], _ => ⟨[], rfl, rfl, by simp⟩
  | r :: rows, h => by
    obtain ⟨x, sv, rfl, h5⟩ := h r (by simp)
    obtain ⟨m, h1, h2, h3⟩ := rows_rls w rows (fun r' hr => h r' (by simp [hr]))
    refine ⟨(x, sv) :: m, by simp [h1], by rw [List.flatten_cons, h2]; rfl, ?_⟩
    intro y hy
    rcases List.mem_cons.1 hy with rfl | hy
    · exact h5
    · exact h3 y hy
set_option maxRecDepth 100000 in
theorem open_rls {H : Type} {enc : TypeId × Value → H} {W : World} {r : Reach} {b0 : Nat} {v : Value} {d : DataW H} {p : List MemPlace} (_hv : Value.okWide Tryd.prog W r b0 34 v)
    (h : DataW.Trod enc Tryd.prog W 0 (fun _ => true) true 34 v d p) :
    ∃ (l : List Rl) (A : Option Addr) (c : Nat), v = .slice A l.length c ∧ RdRl W (.slice A l.length c) l := by
  obtain ⟨a, len, cap, rfl⟩ := okWide_slice Tryd.underlying34 _hv
  obtain ⟨fuel, hf⟩ := h
  obtain ⟨rows, A, c, hv, hrows, hrd⟩ := open_rows (v := .slice a len cap) Tryd.underlying34 cells_rl (by decide) hf
  obtain ⟨m, h1, h2, h3⟩ := rows_rls W rows (fun r hr => by obtain ⟨_, n', y', hy⟩ := hrows r hr; exact row_rl hy)
  rw [h2, ← h1] at hrd
  have hl : RdRl W (.slice a len cap) (m.map (·.1)) := ⟨m, rfl, hrd, h3⟩
  obtain ⟨A', c', he, _, _⟩ := hl.form
  rw [he] at hl ⊢
  exact ⟨m.map (·.1), A', c', rfl, hl⟩

def laidL : List (String × DataW Unit) := [("math/bits.deBruijn32tab", Rows.laid_math_bits_deBruijn32tab), ("math/bits.deBruijn64tab", Rows.laid_math_bits_deBruijn64tab), ("internal/strconv.uint64pow10", Rows.laid_internal_strconv_uint64pow10), ("sawmill/ruletext.operators", Rows.laid_sawmill_ruletext_operators)]

set_option maxRecDepth 100000 in
theorem door_met (os : Os) (args : Array Value) : laidMetH Tryd.prog laidL ((World.doorLaid Tryd.prog 29 os).forCall (fun _ _ => 0) ⟨#[], args, []⟩).memory :=
  laidMetH_of_parts3 (fuel := 8) (laidMet_of_run' 8 (by kernel_rfl) (by kernel_rfl)) (by kernel_rfl) (by kernel_rfl)

/-- The table's rows as data. -/
def opData : List (List UInt8 × Int × Int × Int) := (List.range 12).map fun o => if o = 0 then ([], 0, 0, 0) else (opText o, ownP o, opFirst o, opSecond o)
def opDat {H : Type} (x : List UInt8 × Int × Int × Int) : DataW H := .agg [.lit (.string x.1), .lit (.int .i64 x.2.1), .lit (.int .i64 x.2.2.1), .lit (.int .i64 x.2.2.2)]
def opVal (x : List UInt8 × Int × Int × Int) : List Value := [.string (str x.1), .int .i64 x.2.1, .int .i64 x.2.2.1, .int .i64 x.2.2.2]
theorem laid_ops {H : Type} : (Rows.laid_sawmill_ruletext_operators : DataW H) = .agg (opData.map opDat) := by kernel_rfl
theorem cells_ops : opCells = opData.flatMap opVal := by kernel_rfl
theorem cells_oper : Tryd.prog.cellsOf 95 = 4 := by kernel_rfl
set_option maxRecDepth 100000 in
theorem op_row {H : Type} {enc : TypeId × Value → H} {w : World} {spare : Nat → Bool} {held : Bool} {n : Nat} {r : List Value} {x : List UInt8 × Int × Int × Int} {p : List MemPlace} (h : DataW.trod enc Tryd.prog w 0 spare held n 95 r = some (opDat x, p)) : r = opVal x := by
  obtain ⟨xs, m, _, hx, hlen, hxl, hf⟩ := DataW.trod_struct Tryd.underlying95 h
  rw [cells_oper] at hlen
  match r, hlen, xs, hxl, hf, hx with
  | [u0, u1, u2, u3], _, [x0, x1, x2, x3], _, hf, hx =>
    have h0 : DataW.trod enc Tryd.prog w 0 spare held m 9 (([u0, u1, u2, u3].drop 0).take (Tryd.prog.cellsOf 9)) = some x0 := hf 0 _ rfl
    have h1 : DataW.trod enc Tryd.prog w 0 spare held m 3 (([u0, u1, u2, u3].drop 1).take (Tryd.prog.cellsOf 3)) = some x1 := hf 1 _ rfl
    have h2 : DataW.trod enc Tryd.prog w 0 spare held m 3 (([u0, u1, u2, u3].drop 2).take (Tryd.prog.cellsOf 3)) = some x2 := hf 2 _ rfl
    have h3 : DataW.trod enc Tryd.prog w 0 spare held m 3 (([u0, u1, u2, u3].drop 3).take (Tryd.prog.cellsOf 3)) = some x3 := hf 3 _ rfl
    rw [cells_int] at h1 h2 h3
    rw [cells_strg] at h0
    obtain ⟨s, e0, y0, _⟩ := DataW.trod_string Tryd.underlying9 h0
    obtain ⟨n1, e1, y1, _⟩ := DataW.trod_int Tryd.underlying3 h1
    obtain ⟨n2, e2, y2, _⟩ := DataW.trod_int Tryd.underlying3 h2
    obtain ⟨n3, e3, y3, _⟩ := DataW.trod_int Tryd.underlying3 h3
    subst y0 y1 y2 y3
    simp only [Prod.mk.injEq, opDat, DataW.agg.injEq, List.map_cons, List.map_nil, List.cons.injEq, DataW.lit.injEq, Lit.string.injEq, Lit.int.injEq, and_true, true_and] at hx
    simp only [List.drop_zero, List.drop_succ_cons, List.take_succ_cons, List.take_zero, List.cons.injEq, and_true] at e0 e1 e2 e3
    subst e0 e1 e2 e3
    obtain ⟨⟨q0, q1, q2, q3⟩, _⟩ := hx
    rw [opVal, q0, q1, q2, q3]
    exact congrArg (fun t => [Value.string t, _, _, _]) (str_bts s).symm

set_option maxRecDepth 100000 in
theorem ops_of {W : World} {g : Nat} {cs : Array Value} {fuel : Nat} {p : List MemPlace} {spare : Nat → Bool} {held : Bool} {H : Type} {enc : TypeId × Value → H} (hg : Tryd.prog.globalNamed "sawmill/ruletext.operators" = some g)
    (hv : W.var? Tryd.prog "sawmill/ruletext.operators" = some cs) (hd : DataW.trod enc Tryd.prog W 0 spare held fuel 96 cs.toList = some (.agg (opData.map opDat), p)) : W.rangeAt g 0 opCells := by
  obtain ⟨xs, m, _, hx, hl, hn, hel⟩ := DataW.trod_array Tryd.underlying96 hd
  simp only [Prod.mk.injEq, DataW.agg.injEq] at hx
  rw [show Tryd.prog.cellsOf 96 = 48 by kernel_rfl] at hl
  have hrow : ∀ i, i < 12 → ((cs.toList.drop (i * 4)).take 4) = opVal (opData.getD i ([], 0, 0, 0)) := fun i hi => by
    have h1 := hel i hi
    rw [cells_oper, List.getElem?_eq_getElem (by omega)] at h1
    have h2 : (opData.map (opDat (H := H)))[i]? = (xs.map (·.1))[i]? := by rw [hx.1]
    rw [List.getElem?_map, List.getElem?_map, List.getElem?_eq_getElem (show i < opData.length from hi), List.getElem?_eq_getElem (by omega)] at h2
    simp only [Option.map_some, Option.some.injEq] at h2
    generalize xs[i]'(by omega) = z at h1 h2
    obtain ⟨d, pl⟩ := z
    simp only at h2
    rw [← h2] at h1
    rw [op_row h1, List.getD_eq_getElem?_getD, List.getElem?_eq_getElem (show i < opData.length from hi)]
    rfl
  intro j v hj
  have hj48 : j < 48 := (List.getElem?_eq_some_iff.1 hj).1
  rw [Nat.zero_add, World.var?_cell hg hv j, ← Array.getElem?_toList]
  have h3 := congrArg (·[j % 4]?) (hrow (j / 4) (by omega))
  simp only [List.getElem?_take, List.getElem?_drop] at h3
  rw [if_pos (Nat.mod_lt _ (by decide)), show j / 4 * 4 + j % 4 = j by omega] at h3
  rw [h3, ← hj]
  have h4 : ∀ i, i < 48 → (opVal (opData.getD (i / 4) ([], 0, 0, 0)))[i % 4]? = opCells[i]? := by
    intro i hi
    have h5 : ∀ a b, a < 12 → b < 4 → (opVal (opData.getD a ([], 0, 0, 0)))[b]? = opCells[a * 4 + b]? := by
      intro a b ha hb
      obtain rfl | rfl | rfl | rfl : b = 0 ∨ b = 1 ∨ b = 2 ∨ b = 3 := by omega
      all_goals obtain rfl | rfl | rfl | rfl | rfl | rfl | rfl | rfl | rfl | rfl | rfl | rfl : a = 0 ∨ a = 1 ∨ a = 2 ∨ a = 3 ∨ a = 4 ∨ a = 5 ∨ a = 6 ∨ a = 7 ∨ a = 8 ∨ a = 9 ∨ a = 10 ∨ a = 11 := by omega
      all_goals rfl
    rw [h5 _ _ (by omega) (Nat.mod_lt _ (by decide)), show i / 4 * 4 + i % 4 = i by omega]
  exact h4 j hj48

theorem vars_of_laid {W : World} (h : laidMetH Tryd.prog laidL W) : VarsX W := by
  rw [MakeChecks.laidMetH_plain _ _ _ (by kernel_rfl)] at h
  obtain ⟨ps, ⟨_, _, _, _, _, _, _, _, _, _, ⟨g1, t1', cs1, f1, p1, q1, hg1, ht1, hv1, hd1, ⟨g2, t2, cs2, f2, p2, q2, hg2, ht2, hv2, hd2, ⟨g0, t0, cs0, f0, p0, q0, hg0, ht0, hv0, hd0, _, _⟩, _⟩, _⟩, _⟩, _, _⟩ := h
  obtain rfl := Option.some.inj ((show Tryd.prog.globalNamed "sawmill/ruletext.operators" = some 0 by kernel_rfl).symm.trans hg0)
  obtain rfl := Option.some.inj ((show (Tryd.prog.globals[0]?).map (·.type) = some 96 by kernel_rfl).symm.trans ht0)
  obtain rfl := Option.some.inj ((show Tryd.prog.globalNamed "internal/strconv.uint64pow10" = some 1 by kernel_rfl).symm.trans hg2)
  obtain rfl := Option.some.inj ((show (Tryd.prog.globals[1]?).map (·.type) = some 130 by kernel_rfl).symm.trans ht2)
  have t1 : Lib.TabIs Tryd.prog W "internal/strconv.uint64pow10" .u64 Lib.pow10Tab := by
    unfold Lib.TabIs
    rw [hv2, ← Lib.cells_of_tab (zs := Lib.pow10Tab) Tryd.underlying130 Tryd.underlying105 (by kernel_rfl) (by kernel_rfl) hd2]
  rw [laid_ops] at hd0
  have hops := ops_of hg0 hv0 hd0
  refine ⟨hops, t1, ?_, ?_⟩
  · obtain ⟨_, _, _, _, hlen, _, _⟩ := DataW.trod_array Tryd.underlying130 hd2
    have hcell := World.var?_cell hg2 hv2 0
    have hsz : 0 < cs2.size := by
      have h20 : Tryd.prog.cellsOf 130 = 20 := by kernel_rfl
      rw [h20] at hlen
      simp at hlen
      omega
    rw [Array.getElem?_eq_getElem hsz] at hcell
    exact World.block_lt_of_cell? W _ hcell
  · exact World.block_lt_of_cell? W _ (hops 0 _ rfl)

end Go.Proofs.YtkalkglllgebkaaDoor
