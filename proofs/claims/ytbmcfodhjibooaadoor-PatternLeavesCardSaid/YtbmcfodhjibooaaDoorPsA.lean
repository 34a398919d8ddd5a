/-
  Arguments of the laws of patterns, opened; what the rows' condition on package-level variables gives the walks.
-/
import Derived.Test.YtbmcfodhjibooaaDoorRow
import Derived.Test.YtbmcfodhjibooaaDoorPaR
import Derived.Test.YtbmcfodhjibooaaDoorPaL
import Derived.Test.YtbmcfodhjibooaaDoorPaI
import Derived.LaidMore
import Derived.Stop.Joined
import Derived.Lib.LaidTab
namespace Go.Proofs.YtbmcfodhjibooaaDoor
open Go.ChangeShapes Go.WideShapes Go.ChangeAt Go.RowKit Saw

def VarsX (w : World) : Prop := Pow w ∧ 0 < w.heap.size
theorem VarsX.next {w w' : World} (h : VarsX w) (hb : Below w.heap.size w w') : VarsX w' := ⟨h.1.below hb h.2, Nat.lt_of_lt_of_le h.2 hb.size⟩
def I64 (n : Int) : Prop := -9223372036854775808 ≤ n ∧ n ≤ 9223372036854775807
theorem wf_i64b {n : Int} (h : (Lit.int .i64 n).wf = true) : I64 n := by
  have := bounds_i64 h
  exact ⟨by omega, by omega⟩
theorem rows_ints : ∀ (rows : List (List Value)), (∀ r ∈ rows, ∃ n : Int, r = [.int .i64 n]) → ∃ l : List Int, l.length = rows.length ∧ rows.flatten = ints l
  | [], _ => ⟨[], rfl, rfl⟩
  | r :: rows, h => by
    obtain ⟨n, rfl⟩ := h r (by simp)
    obtain ⟨l, h1, h2⟩ := rows_ints rows (fun r' hr => h r' (by simp [hr]))
    exact ⟨n :: l, by simp [h1], by rw [List.flatten_cons, h2]; rfl⟩
theorem open_ints {H : Type} {enc : TypeId × Value → H} {w : World} {spare : Nat → Bool} {held : Bool} {n : Nat} {v : Value} {y : DataW H × List MemPlace} (h : DataW.trod enc Tryd.prog w 0 spare held n 72 [v] = some y) :
    ∃ l : List Int, RdI w w.heap.size v l := by
  obtain ⟨rows, A, c, hv, hrows, hrd⟩ := open_rows Tryd.underlying72 (show Tryd.prog.cellsOf 3 = 1 by kernel_rfl) (by decide) h
  obtain ⟨l, h1, h2⟩ := rows_ints rows (fun r hr => by
    obtain ⟨hl1, n', y', hy⟩ := hrows r hr
    obtain ⟨c0, rfl⟩ : ∃ c0, r = [c0] := List.length_eq_one_iff.1 hl1
    obtain ⟨n0, m0, _, _⟩ := DataW.trod_int Tryd.underlying3 hy
    exact ⟨n0, m0⟩)
  rw [h2, ← h1] at hrd
  exact ⟨l, hrd⟩

theorem row_pr {H : Type} {enc : TypeId × Value → H} {w : World} {spare : Nat → Bool} {held : Bool} {n : Nat} {r : List Value} {y : DataW H × List MemPlace} (h : DataW.trod enc Tryd.prog w 0 spare held n 74 r = some y) :
    ∃ (x : Pr) (lv pv : Value), r = prCells x lv pv ∧ x.name.length ≤ maxLen ∧ RdI w w.heap.size lv x.lens ∧ RdI w w.heap.size pv x.prices := by
  obtain ⟨hlen, m, hf⟩ := row_fields Tryd.underlying74 (by kernel_rfl) (by kernel_rfl) h
  obtain ⟨c0, z0, e0, t0⟩ := hf 0 _ rfl
  obtain ⟨s0, es0, _, hs0⟩ := DataW.trod_string Tryd.underlying9 t0
  injection es0 with es0 _
  subst es0
  obtain ⟨c1, z1, e1, t1⟩ := hf 1 _ rfl
  obtain ⟨n1, m1, _, w1⟩ := DataW.trod_int Tryd.underlying3 t1
  injection m1 with m1 _
  subst m1
  obtain ⟨c2, z2, e2, t2⟩ := hf 2 _ rfl
  obtain ⟨n2, m2, _, w2⟩ := DataW.trod_int Tryd.underlying3 t2
  injection m2 with m2 _
  subst m2
  obtain ⟨c3, z3, e3, t3⟩ := hf 3 _ rfl
  obtain ⟨n3, m3, _, w3⟩ := DataW.trod_int Tryd.underlying3 t3
  injection m3 with m3 _
  subst m3
  obtain ⟨c4, z4, e4, t4⟩ := hf 4 _ rfl
  obtain ⟨n4, m4, _, w4⟩ := DataW.trod_int Tryd.underlying3 t4
  injection m4 with m4 _
  subst m4
  obtain ⟨c5, z5, e5, t5⟩ := hf 5 _ rfl
  obtain ⟨l5, hl5⟩ := open_ints t5
  obtain ⟨c6, z6, e6, t6⟩ := hf 6 _ rfl
  obtain ⟨l6, hl6⟩ := open_ints t6
  refine ⟨⟨bts s0, n1, n2, n3, n4, l5, l6⟩, c5, c6, ?_, by rw [← size_bts]; exact hs0, hl5, hl6⟩
  apply List.ext_getElem?
  intro j
  by_cases hj : j < 7
  · match j, hj with
    | 0, _ => rw [e0]; exact congrArg (fun t => some (Value.string t)) (str_bts s0).symm
    | 1, _ => exact e1
    | 2, _ => exact e2
    | 3, _ => exact e3
    | 4, _ => exact e4
    | 5, _ => exact e5
    | 6, _ => exact e6
  · rw [List.getElem?_eq_none (by rw [hlen]; show 7 ≤ j; omega), List.getElem?_eq_none (by show 7 ≤ j; omega)]

theorem rows_prs (w : World) : ∀ (rows : List (List Value)), (∀ r ∈ rows, ∃ (x : Pr) (lv pv : Value), r = prCells x lv pv ∧ x.name.length ≤ maxLen ∧ RdI w w.heap.size lv x.lens ∧ RdI w w.heap.size pv x.prices) →
    ∃ m : List (Pr × Value × Value), m.length = rows.length ∧ rows.flatten = prsCells m ∧ (∀ y ∈ m, RdI w w.heap.size y.2.1 y.1.lens ∧ RdI w w.heap.size y.2.2 y.1.prices) ∧ ∀ y ∈ m, y.1.name.length ≤ maxLen
  | [], _ => ⟨[], rfl, rfl, by simp, by simp⟩
  | r :: rows, h => by
    obtain ⟨x, lv, pv, rfl, hn, h5, h6⟩ := h r (by simp)
    obtain ⟨m, h1, h2, h3, h4⟩ := rows_prs w rows (fun r' hr => h r' (by simp [hr]))
    refine ⟨(x, lv, pv) :: m, by simp [h1], by rw [List.flatten_cons, h2]; rfl, ?_, ?_⟩
    · intro y hy
      rcases List.mem_cons.1 hy with rfl | hy
      · exact ⟨h5, h6⟩
      · exact h3 y hy
    · intro y hy
      rcases List.mem_cons.1 hy with rfl | hy
      · exact hn
      · exact h4 y hy
section
variable {H : Type} {enc : TypeId × Value → H} {w : World} {spare : Nat → Bool} {held : Bool} {n : Nat} {v : Value} {y : DataW H × List MemPlace}
theorem open_prs (h : DataW.trod enc Tryd.prog w 0 spare held n 29 [v] = some y) : ∃ c : List Pr, RdPr w w.heap.size v c ∧ ∀ x ∈ c, x.name.length ≤ maxLen := by
  obtain ⟨rows, A, c, hv, hrows, hrd⟩ := open_rows Tryd.underlying29 (show Tryd.prog.cellsOf 74 = 7 by kernel_rfl) (by decide) h
  obtain ⟨m, h1, h2, h3, h4⟩ := rows_prs w rows (fun r hr => by obtain ⟨_, n', y', hy⟩ := hrows r hr; exact row_pr hy)
  rw [h2, ← h1] at hrd
  refine ⟨m.map (·.1), ⟨m, rfl, hrd, h3⟩, ?_⟩
  intro x hx
  obtain ⟨z, hz, rfl⟩ := List.mem_map.1 hx
  exact h4 z hz
end

set_option maxRecDepth 100000 in
theorem open_catalog {H : Type} {enc : TypeId × Value → H} {W : World} {r : Reach} {b0 : Nat} {v : Value} {d : DataW H} {p : List MemPlace} (_hv : Value.okWide Tryd.prog W r b0 29 v)
    (h : DataW.Trod enc Tryd.prog W 0 (fun _ => true) true 29 v d p) :
    ∃ (l : List Pr) (A : Option Addr) (c : Nat), v = .slice A l.length c ∧ (RdPr W W.heap.size (.slice A l.length c) l ∧ ∀ x ∈ l, x.name.length ≤ maxLen) := by
  obtain ⟨a, len, cap, rfl⟩ := okWide_slice Tryd.underlying29 _hv
  obtain ⟨fuel, hf⟩ := h
  obtain ⟨l, hl, ho⟩ := open_prs (v := .slice a len cap) hf
  obtain ⟨A, c, he, _, _⟩ := hl.form
  rw [he] at hl ⊢
  exact ⟨l, A, c, rfl, hl, ho⟩


theorem cells_int : Tryd.prog.cellsOf 3 = 1 := by kernel_rfl
theorem cells_spn : Tryd.prog.cellsOf 23 = 2 := by kernel_rfl
theorem cells_rct : Tryd.prog.cellsOf 25 = 4 := by kernel_rfl
theorem cells_nde : Tryd.prog.cellsOf 64 = 2 := by kernel_rfl
theorem cells_nds : Tryd.prog.cellsOf 26 = 1 := by kernel_rfl
section
variable {H : Type} {enc : TypeId × Value → H} {w : World} {spare : Nat → Bool} {held : Bool} {n : Nat}
theorem row_two {t : TypeId} {fs : Array Field} (he : Tryd.prog.underlying t = some (.struct fs)) (h0 : (fs[0]?).map (·.type) = some 3) (h1 : (fs[1]?).map (·.type) = some 3) (h2 : fs.size = 2) (hone : Deep.oneCellFields Tryd.prog fs = true) (hC : Tryd.prog.cellsOf t = fs.size) {r : List Value} {y : DataW H × List MemPlace}
    (h : DataW.trod enc Tryd.prog w 0 spare held n t r = some y) : ∃ a b : Int, r = [.int .i64 a, .int .i64 b] := by
  obtain ⟨hlen, m, hf⟩ := row_fields he hone hC h
  obtain ⟨f0, hf0, e0⟩ := Option.map_eq_some_iff.1 h0
  obtain ⟨f1, hf1, e1⟩ := Option.map_eq_some_iff.1 h1
  obtain ⟨c0, z0, k0, t0⟩ := hf 0 _ hf0
  obtain ⟨c1, z1, k1, t1⟩ := hf 1 _ hf1
  rw [e0] at t0
  rw [e1] at t1
  obtain ⟨n0, m0, _, _⟩ := DataW.trod_int Tryd.underlying3 t0
  obtain ⟨n1, m1, _, _⟩ := DataW.trod_int Tryd.underlying3 t1
  injection m0 with m0 _
  injection m1 with m1 _
  subst m0 m1
  rw [h2] at hlen
  match r, hlen, k0, k1 with
  | [u0, u1], _, k0, k1 =>
    simp only [List.getElem?_cons_zero, List.getElem?_cons_succ, Option.some.injEq] at k0 k1
    subst k0 k1
    exact ⟨n0, n1, rfl⟩
theorem row_nd {r : List Value} {y : DataW H × List MemPlace} (h : DataW.trod enc Tryd.prog w 0 spare held n 64 r = some y) : ∃ a b : Int, r = [.int .i64 a, .int .i64 b] :=
  row_two Tryd.underlying64 rfl rfl rfl (by kernel_rfl) (by kernel_rfl) h
theorem row_spn {r : List Value} {y : DataW H × List MemPlace} (h : DataW.trod enc Tryd.prog w 0 spare held n 23 r = some y) : ∃ a b : Int, r = [.int .i64 a, .int .i64 b] :=
  row_two Tryd.underlying23 rfl rfl rfl (by kernel_rfl) (by kernel_rfl) h
theorem rows_two {α : Type} (f : Int → Int → α) (g : α → List Value) (hg : ∀ a b, g (f a b) = [.int .i64 a, .int .i64 b]) : ∀ (rows : List (List Value)), (∀ r ∈ rows, ∃ a b : Int, r = [.int .i64 a, .int .i64 b]) → ∃ l : List α, l.length = rows.length ∧ rows.flatten = l.flatMap g
  | [], _ => ⟨[], rfl, rfl⟩
  | r :: rows, h => by
    obtain ⟨a, b, rfl⟩ := h r (by simp)
    obtain ⟨l, h1, h2⟩ := rows_two f g hg rows (fun r' hr => h r' (by simp [hr]))
    exact ⟨f a b :: l, by simp [h1], by rw [List.flatten_cons, h2, List.flatMap_cons, hg]⟩
theorem open_nds {v : Value} {y : DataW H × List MemPlace} (h : DataW.trod enc Tryd.prog w 0 spare held n 26 [v] = some y) : ∃ l : List Nd, RdNd w w.heap.size v l := by
  obtain ⟨rows, A, c, hv, hrows, hrd⟩ := open_rows Tryd.underlying26 cells_nde (by decide) h
  obtain ⟨l, h1, h2⟩ := rows_two (fun a b => (⟨a, b⟩ : Nd)) (fun n => [.int .i64 n.kind, .int .i64 n.pos]) (fun _ _ => rfl) rows (fun r hr => by obtain ⟨_, n', y', hy⟩ := hrows r hr; exact row_nd hy)
  rw [h2, ← h1] at hrd
  exact ⟨l, hrd⟩
theorem open_spns {v : Value} {y : DataW H × List MemPlace} (h : DataW.trod enc Tryd.prog w 0 spare held n 45 [v] = some y) : ∃ l : List (Int × Int), RdSp w w.heap.size v l := by
  obtain ⟨rows, A, c, hv, hrows, hrd⟩ := open_rows Tryd.underlying45 cells_spn (by decide) h
  obtain ⟨l, h1, h2⟩ := rows_two (fun a b => (a, b)) (fun s => [.int .i64 s.1, .int .i64 s.2]) (fun _ _ => rfl) rows (fun r hr => by obtain ⟨_, n', y', hy⟩ := hrows r hr; exact row_spn hy)
  rw [h2, ← h1] at hrd
  exact ⟨l, hrd⟩
theorem rows_nds : ∀ (rows : List (List Value)), (∀ r ∈ rows, r.length = 1 ∧ ∃ (n : Nat) (y : DataW H × List MemPlace), DataW.trod enc Tryd.prog w 0 spare held n 26 r = some y) → ∃ l : List (List Nd), l.length = rows.length ∧ ∀ (i : Nat) (x : List Nd), l[i]? = some x → ∃ u, rows.flatten[i]? = some u ∧ RdNd w w.heap.size u x
  | [], _ => ⟨[], rfl, fun i x h => by simp at h⟩
  | r :: rows, h => by
    obtain ⟨hl, n, y, hy⟩ := h r (by simp)
    obtain ⟨v, rfl⟩ := List.length_eq_one_iff.1 hl
    obtain ⟨x, hx⟩ := open_nds hy
    obtain ⟨l, h1, h2⟩ := rows_nds rows (fun r' hr => h r' (by simp [hr]))
    refine ⟨x :: l, by simp [h1], fun i z hz => ?_⟩
    cases i with
    | zero =>
      simp only [List.getElem?_cons_zero, Option.some.injEq] at hz
      subst hz
      exact ⟨v, by simp, hx⟩
    | succ i =>
      rw [List.getElem?_cons_succ] at hz
      obtain ⟨u, h3, h4⟩ := h2 i z hz
      exact ⟨u, by simpa using h3, h4⟩
theorem open_ndss {v : Value} {y : DataW H × List MemPlace} (h : DataW.trod enc Tryd.prog w 0 spare held n 46 [v] = some y) : ∃ l : List (List Nd), RdPs w w.heap.size v l := by
  obtain ⟨rows, A, c, hv, hrows, hrd⟩ := open_rows Tryd.underlying46 cells_nds (by decide) h
  obtain ⟨l, h1, h2⟩ := rows_nds rows hrows
  rw [← h1] at hrd
  exact ⟨l, rows.flatten, hrd, h2⟩
set_option maxRecDepth 100000 in
theorem row_rct {r : List Value} {y : DataW H × List MemPlace} (h : DataW.trod enc Tryd.prog w 0 spare held n 25 r = some y) : ∃ x : Rc, r = rcCells x := by
  obtain ⟨xs, m, hnm, _, hlen, hxl, hf⟩ := DataW.trod_struct Tryd.underlying25 h
  rw [cells_rct] at hlen
  match r, hlen, xs, hxl, hf with
  | [u0, u1, u2, u3], _, [x0, x1], _, hf =>
    have h0 : DataW.trod enc Tryd.prog w 0 spare held m 23 (([u0, u1, u2, u3].drop 0).take (Tryd.prog.cellsOf 23)) = some x0 := hf 0 _ rfl
    have h1 : DataW.trod enc Tryd.prog w 0 spare held m 23 (([u0, u1, u2, u3].drop (Tryd.prog.cellsOf 23)).take (Tryd.prog.cellsOf 23)) = some x1 := hf 1 _ rfl
    rw [cells_spn] at h0 h1
    obtain ⟨a, b, e0⟩ := row_spn h0
    obtain ⟨c, d, e1⟩ := row_spn h1
    simp only [List.drop_zero, List.drop_succ_cons, List.take_succ_cons, List.take_zero, List.cons.injEq, and_true] at e0 e1
    obtain ⟨rfl, rfl⟩ := e0
    obtain ⟨rfl, rfl⟩ := e1
    exact ⟨⟨a, b, c, d⟩, rfl⟩
end

theorem cells_pat : Tryd.prog.cellsOf 28 = 5 := by kernel_rfl
set_option maxRecDepth 100000 in
theorem open_pattern {H : Type} {enc : TypeId × Value → H} {W : World} {r : Reach} {b0 : Nat} {v : Value} {d : DataW H} {p : List MemPlace} (hv : Value.okWide Tryd.prog W r b0 28 v)
    (h : DataW.Trod enc Tryd.prog W 0 (fun _ => true) true 28 v d p) :
    ∃ (x : Rc) (ns : List Nd) (A : Option Addr) (c : Nat), v = .agg #[.int .i64 x.xa, .int .i64 x.xb, .int .i64 x.ya, .int .i64 x.yb, .slice A ns.length c] ∧ RdNd W W.heap.size (.slice A ns.length c) ns := by
  obtain ⟨cs, rfl, _⟩ := okWide_struct Tryd.underlying28 hv
  obtain ⟨fuel, hf⟩ := h
  obtain ⟨xs, m, hnm, _, hlen, hxl, hf⟩ := DataW.trod_struct Tryd.underlying28 (show DataW.trod enc Tryd.prog W 0 (fun _ => true) true fuel 28 cs.toList = some _ from hf)
  rw [cells_pat] at hlen
  obtain ⟨l⟩ := cs
  match l, hlen, xs, hxl, hf with
  | [u0, u1, u2, u3, u4], _, [x0, x1], _, hf =>
    have h0 : DataW.trod enc Tryd.prog W 0 (fun _ => true) true m 25 (([u0, u1, u2, u3, u4].drop 0).take (Tryd.prog.cellsOf 25)) = some x0 := hf 0 _ rfl
    have h1 : DataW.trod enc Tryd.prog W 0 (fun _ => true) true m 26 (([u0, u1, u2, u3, u4].drop (Tryd.prog.cellsOf 25)).take (Tryd.prog.cellsOf 26)) = some x1 := hf 1 _ rfl
    rw [cells_rct] at h0
    rw [cells_rct, cells_nds] at h1
    obtain ⟨x, e0⟩ := row_rct h0
    simp only [List.drop_zero, List.drop_succ_cons, List.take_succ_cons, List.take_zero] at e0 h1
    unfold rcCells at e0
    simp only [List.cons.injEq, and_true] at e0
    obtain ⟨rfl, rfl, rfl, rfl⟩ := e0
    obtain ⟨ns, hns⟩ := open_nds h1
    obtain ⟨A, c, rfl, _, _⟩ := hns.form
    exact ⟨x, ns, A, c, rfl, hns⟩
set_option maxRecDepth 100000 in
theorem open_rect {H : Type} {enc : TypeId × Value → H} {W : World} {r : Reach} {b0 : Nat} {v : Value} {d : DataW H} {p : List MemPlace} (hv : Value.okWide Tryd.prog W r b0 25 v)
    (h : DataW.Trod enc Tryd.prog W 0 (fun _ => true) true 25 v d p) :
    ∃ x : Rc, v = .agg #[.int .i64 x.xa, .int .i64 x.xb, .int .i64 x.ya, .int .i64 x.yb] ∧ True := by
  obtain ⟨cs, rfl, _⟩ := okWide_struct Tryd.underlying25 hv
  obtain ⟨fuel, hf⟩ := h
  obtain ⟨x, hx⟩ := row_rct (show DataW.trod enc Tryd.prog W 0 (fun _ => true) true fuel 25 cs.toList = some _ from hf)
  refine ⟨x, ?_, trivial⟩
  congr 1
  exact Array.ext' hx
set_option maxRecDepth 100000 in
theorem open_spans {H : Type} {enc : TypeId × Value → H} {W : World} {r : Reach} {b0 : Nat} {v : Value} {d : DataW H} {p : List MemPlace} (_hv : Value.okWide Tryd.prog W r b0 45 v)
    (h : DataW.Trod enc Tryd.prog W 0 (fun _ => true) true 45 v d p) :
    ∃ (l : List (Int × Int)) (A : Option Addr) (c : Nat), v = .slice A l.length c ∧ RdSp W W.heap.size (.slice A l.length c) l := by
  obtain ⟨a, len, cap, rfl⟩ := okWide_slice Tryd.underlying45 _hv
  obtain ⟨fuel, hf⟩ := h
  obtain ⟨l, hl⟩ := open_spns (v := .slice a len cap) hf
  obtain ⟨A, c, he, _, _⟩ := hl.form
  rw [he] at hl ⊢
  exact ⟨l, A, c, rfl, hl⟩
theorem cells_parts : Tryd.prog.cellsOf 48 = 8 := by kernel_rfl
theorem cells_spns : Tryd.prog.cellsOf 45 = 1 := by kernel_rfl
theorem cells_ndss : Tryd.prog.cellsOf 46 = 1 := by kernel_rfl
/-- What Row is asked for, handed in by value. -/
def PtsArg (W : World) (sp : List (Int × Int)) (A : Option Addr) (c : Nat) (ps : List (List Nd)) (A2 : Option Addr) (c2 : Nat) : Prop := RdSp W W.heap.size (.slice A sp.length c) sp ∧ RdPs W W.heap.size (.slice A2 ps.length c2) ps
set_option maxRecDepth 100000 in
theorem open_parts {H : Type} {enc : TypeId × Value → H} {W : World} {r : Reach} {b0 : Nat} {v : Value} {d : DataW H} {p : List MemPlace} (hv : Value.okWide Tryd.prog W r b0 48 v)
    (h : DataW.Trod enc Tryd.prog W 0 (fun _ => true) true 48 v d p) :
    ∃ (x : Rc) (axis kerf : Int) (sp : List (Int × Int)) (A : Option Addr) (c : Nat) (ps : List (List Nd)) (A2 : Option Addr) (c2 : Nat), v = .agg #[.int .i64 x.xa, .int .i64 x.xb, .int .i64 x.ya, .int .i64 x.yb, .int .i64 axis, .int .i64 kerf, .slice A sp.length c, .slice A2 ps.length c2] ∧ PtsArg W sp A c ps A2 c2 := by
  obtain ⟨cs, rfl, _⟩ := okWide_struct Tryd.underlying48 hv
  obtain ⟨fuel, hf⟩ := h
  obtain ⟨xs, m, hnm, _, hlen, hxl, hf⟩ := DataW.trod_struct Tryd.underlying48 (show DataW.trod enc Tryd.prog W 0 (fun _ => true) true fuel 48 cs.toList = some _ from hf)
  rw [cells_parts] at hlen
  obtain ⟨l⟩ := cs
  match l, hlen, xs, hxl, hf with
  | [u0, u1, u2, u3, u4, u5, u6, u7], _, [x0, x1, x2, x3, x4], _, hf =>
    have h0 : DataW.trod enc Tryd.prog W 0 (fun _ => true) true m 25 (([u0, u1, u2, u3, u4, u5, u6, u7].drop 0).take (Tryd.prog.cellsOf 25)) = some x0 := hf 0 _ rfl
    have h1 : DataW.trod enc Tryd.prog W 0 (fun _ => true) true m 3 (([u0, u1, u2, u3, u4, u5, u6, u7].drop 4).take (Tryd.prog.cellsOf 3)) = some x1 := hf 1 _ rfl
    have h2 : DataW.trod enc Tryd.prog W 0 (fun _ => true) true m 3 (([u0, u1, u2, u3, u4, u5, u6, u7].drop 5).take (Tryd.prog.cellsOf 3)) = some x2 := hf 2 _ rfl
    have h3 : DataW.trod enc Tryd.prog W 0 (fun _ => true) true m 45 (([u0, u1, u2, u3, u4, u5, u6, u7].drop 6).take (Tryd.prog.cellsOf 45)) = some x3 := hf 3 _ rfl
    have h4 : DataW.trod enc Tryd.prog W 0 (fun _ => true) true m 46 (([u0, u1, u2, u3, u4, u5, u6, u7].drop 7).take (Tryd.prog.cellsOf 46)) = some x4 := hf 4 _ rfl
    rw [cells_rct] at h0
    rw [cells_int] at h1 h2
    rw [cells_spns] at h3
    rw [cells_ndss] at h4
    obtain ⟨x, e0⟩ := row_rct h0
    obtain ⟨n1, e1, _, _⟩ := DataW.trod_int Tryd.underlying3 h1
    obtain ⟨n2, e2, _, _⟩ := DataW.trod_int Tryd.underlying3 h2
    simp only [List.drop_zero, List.drop_succ_cons, List.take_succ_cons, List.take_zero] at e0 e1 e2 h3 h4
    unfold rcCells at e0
    simp only [List.cons.injEq, and_true] at e0 e1 e2
    obtain ⟨rfl, rfl, rfl, rfl⟩ := e0
    subst e1 e2
    obtain ⟨sp, hsp⟩ := open_spns h3
    obtain ⟨ps, hps⟩ := open_ndss h4
    obtain ⟨A, c, rfl, _, _⟩ := hsp.form
    obtain ⟨A2, c2, rfl, _, _⟩ := hps.form
    exact ⟨x, n1, n2, sp, A, c, ps, A2, c2, rfl, hsp, hps⟩
set_option maxRecDepth 100000 in
theorem open_int2 {H : Type} {enc : TypeId × Value → H} {W : World} {r : Reach} {b0 : Nat} {v : Value} {d : DataW H} {p : List MemPlace} (hv : Value.okWide Tryd.prog W r b0 62 v)
    (h : DataW.Trod enc Tryd.prog W 0 (fun _ => true) true 62 v d p) : ∃ a b : Int, v = .agg #[.int .i64 a, .int .i64 b] ∧ (I64 a ∧ I64 b) := by
  simp only [Value.okWide, Tryd.underlying62] at hv
  obtain ⟨cs, rfl, hsz, _⟩ := hv
  obtain ⟨fuel, hf⟩ := h
  obtain ⟨xs, m, _, hx, hl, hn, hel⟩ := DataW.trod_array Tryd.underlying62 (show DataW.trod enc Tryd.prog W 0 (fun _ => true) true fuel 62 cs.toList = some _ from hf)
  have c2 : Tryd.prog.cellsOf 62 = 2 := by kernel_rfl
  have c1 : Tryd.prog.cellsOf 3 = 1 := by kernel_rfl
  obtain ⟨l⟩ := cs
  rw [c2] at hl
  match l, hl, xs, hn, hel with
  | [u0, u1], _, [x0, x1], _, hel =>
    have h0 := hel 0 (by decide)
    have h1 := hel 1 (by decide)
    rw [c1] at h0 h1
    obtain ⟨n0, e0, _, w0⟩ := DataW.trod_int Tryd.underlying3 (show DataW.trod enc Tryd.prog W 0 (fun _ => true) true m 3 _ = some x0 from h0)
    obtain ⟨n1, e1, _, w1⟩ := DataW.trod_int Tryd.underlying3 (show DataW.trod enc Tryd.prog W 0 (fun _ => true) true m 3 _ = some x1 from h1)
    simp at e0 e1
    subst e0 e1
    exact ⟨n0, n1, rfl, wf_i64b w0, wf_i64b w1⟩

def laidL : List (String × DataW Unit) := [("math/bits.deBruijn32tab", Rows.laid_math_bits_deBruijn32tab), ("math/bits.deBruijn64tab", Rows.laid_math_bits_deBruijn64tab), ("internal/strconv.uint64pow10", Rows.laid_internal_strconv_uint64pow10)]

set_option maxRecDepth 100000 in
theorem door_met (os : Os) (args : Array Value) : laidMetH Tryd.prog laidL ((World.doorLaid Tryd.prog 29 os).forCall (fun _ _ => 0) ⟨#[], args, []⟩).memory :=
  laidMetH_of_parts3 (fuel := 8) (laidMet_of_run' 8 (by kernel_rfl) (by kernel_rfl)) (by kernel_rfl) (by kernel_rfl)

theorem vars_of_laid {W : World} (h : laidMetH Tryd.prog laidL W) : VarsX W := by
  rw [MakeChecks.laidMetH_plain _ _ _ (by kernel_rfl)] at h
  obtain ⟨ps, ⟨_, _, _, _, _, _, _, _, _, _, ⟨_, _, _, _, _, _, _, _, _, _, ⟨g2, t2, cs2, f2, p2, q2, hg2, ht2, hv2, hd2, _, _⟩, _⟩, _⟩, _, _⟩ := h
  obtain rfl := Option.some.inj ((show Tryd.prog.globalNamed "internal/strconv.uint64pow10" = some 0 by kernel_rfl).symm.trans hg2)
  obtain rfl := Option.some.inj ((show (Tryd.prog.globals[0]?).map (·.type) = some 168 by kernel_rfl).symm.trans ht2)
  have t1 : Lib.TabIs Tryd.prog W "internal/strconv.uint64pow10" .u64 Lib.pow10Tab := by
    unfold Lib.TabIs
    rw [hv2, ← Lib.cells_of_tab (zs := Lib.pow10Tab) Tryd.underlying168 Tryd.underlying126 (by kernel_rfl) (by kernel_rfl) hd2]
  refine ⟨t1, ?_⟩
  obtain ⟨_, _, _, _, hlen, _, _⟩ := DataW.trod_array Tryd.underlying168 hd2
  have hcell := World.var?_cell hg2 hv2 0
  have hsz : 0 < cs2.size := by
    have h20 : Tryd.prog.cellsOf 168 = 20 := by kernel_rfl
    rw [h20] at hlen
    simp at hlen
    omega
  rw [Array.getElem?_eq_getElem hsz] at hcell
  exact World.block_lt_of_cell? W _ hcell

end Go.Proofs.YtbmcfodhjibooaaDoor
