/-
  Arguments of TopKiln, opened; what the row's condition on package-level variables gives the walk.
-/
import Derived.Test.YthineckpociomaaDoorRow
import Derived.Test.YthineckpociomaaDoorKiZ
import Derived.LaidMore
import Derived.Stop.Joined
import Derived.Lib.LaidTab
namespace Go.Proofs.YthineckpociomaaDoor
open Go.ChangeShapes Go.WideShapes Go.ChangeAt Go.RowKit Saw

theorem wf_i64b {n : Int} (h : (Lit.int .i64 n).wf = true) : InI n := by
  have := bounds_i64 h
  exact ⟨by omega, by omega⟩
theorem cells_int : Tryd.prog.cellsOf 3 = 1 := by kernel_rfl
theorem cells_bool : Tryd.prog.cellsOf 4 = 1 := by kernel_rfl
theorem cells_str : Tryd.prog.cellsOf 9 = 1 := by kernel_rfl
theorem cells_span : Tryd.prog.cellsOf 33 = 2 := by kernel_rfl
theorem cells_box : Tryd.prog.cellsOf 35 = 6 := by kernel_rfl
theorem cells_df : Tryd.prog.cellsOf 88 = 7 := by kernel_rfl
theorem cells_dfs : Tryd.prog.cellsOf 36 = 1 := by kernel_rfl
theorem cells_cell : Tryd.prog.cellsOf 38 = 3 := by kernel_rfl
theorem cells_bd : Tryd.prog.cellsOf 40 = 18 := by kernel_rfl
theorem cells_bds : Tryd.prog.cellsOf 22 = 1 := by kernel_rfl
theorem cells_sp : Tryd.prog.cellsOf 24 = 13 := by kernel_rfl
theorem cells_sch : Tryd.prog.cellsOf 27 = 3 := by kernel_rfl
theorem cells_fas : Tryd.prog.cellsOf 28 = 1 := by kernel_rfl
theorem cells_kn : Tryd.prog.cellsOf 30 = 19 := by kernel_rfl
section
variable {H : Type} {enc : TypeId × Value → H} {w : World} {spare : Nat → Bool} {held : Bool} {n : Nat}
/-- One cell that reads as an int, a string, a bool. -/
theorem cell_int {c : Value} {y : DataW H × List MemPlace} (h : DataW.trod enc Tryd.prog w 0 spare held n 3 [c] = some y) : ∃ k : Int, c = .int .i64 k ∧ InI k := by
  obtain ⟨k, e, _, wf⟩ := DataW.trod_int Tryd.underlying3 h
  injection e with e _
  exact ⟨k, e, wf_i64b wf⟩
theorem cell_str {c : Value} {y : DataW H × List MemPlace} (h : DataW.trod enc Tryd.prog w 0 spare held n 9 [c] = some y) : ∃ s : List UInt8, c = .string (str s) ∧ s.length ≤ maxLen := by
  obtain ⟨s, e, _, hs⟩ := DataW.trod_string Tryd.underlying9 h
  injection e with e _
  exact ⟨bts s, by rw [e, str_bts], by rw [← size_bts]; exact hs⟩
theorem cell_bool {c : Value} {y : DataW H × List MemPlace} (h : DataW.trod enc Tryd.prog w 0 spare held n 4 [c] = some y) : ∃ b : Bool, c = .bool b := by
  obtain ⟨b, e, _⟩ := DataW.trod_bool Tryd.underlying4 h
  injection e with e _
  exact ⟨b, e⟩

set_option maxRecDepth 100000 in
theorem row_span {r : List Value} {y : DataW H × List MemPlace} (h : DataW.trod enc Tryd.prog w 0 spare held n 33 r = some y) : ∃ a b : Int, r = [.int .i64 a, .int .i64 b] ∧ InI a ∧ InI b := by
  obtain ⟨xs, m, hnm, _, hlen, hxl, hf⟩ := DataW.trod_struct Tryd.underlying33 h
  rw [cells_span] at hlen
  match r, hlen, xs, hxl, hf with
  | [u0, u1], _, [x0, x1], _, hf =>
    have h0 : DataW.trod enc Tryd.prog w 0 spare held m 3 (([u0, u1].drop 0).take (Tryd.prog.cellsOf 3)) = some x0 := hf 0 _ rfl
    rw [cells_int] at h0
    simp only [List.drop_zero, List.take_succ_cons, List.take_zero] at h0
    have h1 : DataW.trod enc Tryd.prog w 0 spare held m 3 (([u0, u1].drop 1).take (Tryd.prog.cellsOf 3)) = some x1 := hf 1 _ rfl
    rw [cells_int] at h1
    simp only [List.drop_zero, List.drop_succ_cons, List.take_succ_cons, List.take_zero] at h1
    obtain ⟨a, rfl, ha⟩ := cell_int h0
    obtain ⟨b, rfl, hb⟩ := cell_int h1
    exact ⟨a, b, rfl, ha, hb⟩
set_option maxRecDepth 100000 in
theorem row_box {r : List Value} {y : DataW H × List MemPlace} (h : DataW.trod enc Tryd.prog w 0 spare held n 35 r = some y) : ∃ a b c d e f : Int, r = [.int .i64 a, .int .i64 b, .int .i64 c, .int .i64 d, .int .i64 e, .int .i64 f] ∧ InI a ∧ InI b ∧ InI c ∧ InI d := by
  obtain ⟨xs, m, hnm, _, hlen, hxl, hf⟩ := DataW.trod_struct Tryd.underlying35 h
  rw [cells_box] at hlen
  match r, hlen, xs, hxl, hf with
  | [u0, u1, u2, u3, u4, u5], _, [x0, x1, x2], _, hf =>
    have h0 : DataW.trod enc Tryd.prog w 0 spare held m 33 (([u0, u1, u2, u3, u4, u5].drop 0).take (Tryd.prog.cellsOf 33)) = some x0 := hf 0 _ rfl
    rw [cells_span] at h0
    simp only [List.drop_zero, List.take_succ_cons, List.take_zero] at h0
    have h1 : DataW.trod enc Tryd.prog w 0 spare held m 33 (([u0, u1, u2, u3, u4, u5].drop 2).take (Tryd.prog.cellsOf 33)) = some x1 := hf 1 _ rfl
    rw [cells_span] at h1
    simp only [List.drop_zero, List.drop_succ_cons, List.take_succ_cons, List.take_zero] at h1
    have h2 : DataW.trod enc Tryd.prog w 0 spare held m 33 (([u0, u1, u2, u3, u4, u5].drop 4).take (Tryd.prog.cellsOf 33)) = some x2 := hf 2 _ rfl
    rw [cells_span] at h2
    simp only [List.drop_zero, List.drop_succ_cons, List.take_succ_cons, List.take_zero] at h2
    obtain ⟨a, b, e0, ha, hb⟩ := row_span h0
    obtain ⟨c, d, e1, hc, hd⟩ := row_span h1
    obtain ⟨e, f, e2, _, _⟩ := row_span h2
    simp only [List.cons.injEq, and_true] at e0 e1 e2
    obtain ⟨rfl, rfl⟩ := e0
    obtain ⟨rfl, rfl⟩ := e1
    obtain ⟨rfl, rfl⟩ := e2
    exact ⟨a, b, c, d, e, f, rfl, ha, hb, hc, hd⟩
set_option maxRecDepth 100000 in
theorem row_cell {r : List Value} {y : DataW H × List MemPlace} (h : DataW.trod enc Tryd.prog w 0 spare held n 38 r = some y) : ∃ a b c : Int, r = [.int .i64 a, .int .i64 b, .int .i64 c] := by
  obtain ⟨xs, m, hnm, _, hlen, hxl, hf⟩ := DataW.trod_struct Tryd.underlying38 h
  rw [cells_cell] at hlen
  match r, hlen, xs, hxl, hf with
  | [u0, u1, u2], _, [x0, x1, x2], _, hf =>
    have h0 : DataW.trod enc Tryd.prog w 0 spare held m 3 (([u0, u1, u2].drop 0).take (Tryd.prog.cellsOf 3)) = some x0 := hf 0 _ rfl
    rw [cells_int] at h0
    simp only [List.drop_zero, List.take_succ_cons, List.take_zero] at h0
    have h1 : DataW.trod enc Tryd.prog w 0 spare held m 3 (([u0, u1, u2].drop 1).take (Tryd.prog.cellsOf 3)) = some x1 := hf 1 _ rfl
    rw [cells_int] at h1
    simp only [List.drop_zero, List.drop_succ_cons, List.take_succ_cons, List.take_zero] at h1
    have h2 : DataW.trod enc Tryd.prog w 0 spare held m 3 (([u0, u1, u2].drop 2).take (Tryd.prog.cellsOf 3)) = some x2 := hf 2 _ rfl
    rw [cells_int] at h2
    simp only [List.drop_zero, List.drop_succ_cons, List.take_succ_cons, List.take_zero] at h2
    obtain ⟨a, rfl, _⟩ := cell_int h0
    obtain ⟨b, rfl, _⟩ := cell_int h1
    obtain ⟨c, rfl, _⟩ := cell_int h2
    exact ⟨a, b, c, rfl⟩
set_option maxRecDepth 100000 in
theorem row_df {r : List Value} {y : DataW H × List MemPlace} (h : DataW.trod enc Tryd.prog w 0 spare held n 88 r = some y) : ∀ u ∈ r, u.oneCell' = true := by
  obtain ⟨xs, m, hnm, _, hlen, hxl, hf⟩ := DataW.trod_struct Tryd.underlying88 h
  rw [cells_df] at hlen
  match r, hlen, xs, hxl, hf with
  | [u0, u1, u2, u3, u4, u5, u6], _, [x0, x1], _, hf =>
    have h0 : DataW.trod enc Tryd.prog w 0 spare held m 3 (([u0, u1, u2, u3, u4, u5, u6].drop 0).take (Tryd.prog.cellsOf 3)) = some x0 := hf 0 _ rfl
    rw [cells_int] at h0
    simp only [List.drop_zero, List.take_succ_cons, List.take_zero] at h0
    have h1 : DataW.trod enc Tryd.prog w 0 spare held m 35 (([u0, u1, u2, u3, u4, u5, u6].drop 1).take (Tryd.prog.cellsOf 35)) = some x1 := hf 1 _ rfl
    rw [cells_box] at h1
    simp only [List.drop_zero, List.drop_succ_cons, List.take_succ_cons, List.take_zero] at h1
    obtain ⟨a, rfl, _⟩ := cell_int h0
    obtain ⟨b, c, d, e, f, g, e1, _, _, _, _⟩ := row_box h1
    simp only [List.cons.injEq, and_true] at e1
    obtain ⟨rfl, rfl, rfl, rfl, rfl, rfl⟩ := e1
    intro u hu
    simp only [List.mem_cons, List.not_mem_nil, or_false] at hu
    rcases hu with rfl | rfl | rfl | rfl | rfl | rfl | rfl <;> rfl
theorem open_dfs {v : Value} {y : DataW H × List MemPlace} (h : DataW.trod enc Tryd.prog w 0 spare held n 36 [v] = some y) : ∃ (A : Option Addr) (k c : Nat), v = .slice A k c ∧ DfOk w w.heap.size (.slice A k c) k := by
  obtain ⟨rows, A, c, hv, hrows, hrd⟩ := open_rows Tryd.underlying36 cells_df (by decide) h
  refine ⟨A, rows.length, c, hv, rows.flatten, hv ▸ hrd, fun u hu => ?_⟩
  obtain ⟨r, hr, hur⟩ := List.mem_flatten.1 hu
  obtain ⟨_, _, _, hy⟩ := hrows r hr
  exact row_df hy u hur
set_option maxRecDepth 100000 in
theorem row_bd {r : List Value} {y : DataW H × List MemPlace} (h : DataW.trod enc Tryd.prog w 0 spare held n 40 r = some y) : ∃ x : Bd, r = boCells x ∧ BdI x ∧ DfOk w w.heap.size (.slice x.da x.dn x.dc) x.dn ∧ x.species.length ≤ maxLen := by
  obtain ⟨xs, m, hnm, _, hlen, hxl, hf⟩ := DataW.trod_struct Tryd.underlying40 h
  rw [cells_bd] at hlen
  match r, hlen, xs, hxl, hf with
  | [u0, u1, u2, u3, u4, u5, u6, u7, u8, u9, u10, u11, u12, u13, u14, u15, u16, u17], _, [x0, x1, x2, x3, x4, x5, x6, x7, x8, x9, x10], _, hf =>
    have h0 : DataW.trod enc Tryd.prog w 0 spare held m 9 (([u0, u1, u2, u3, u4, u5, u6, u7, u8, u9, u10, u11, u12, u13, u14, u15, u16, u17].drop 0).take (Tryd.prog.cellsOf 9)) = some x0 := hf 0 _ rfl
    rw [cells_str] at h0
    simp only [List.drop_zero, List.take_succ_cons, List.take_zero] at h0
    have h1 : DataW.trod enc Tryd.prog w 0 spare held m 9 (([u0, u1, u2, u3, u4, u5, u6, u7, u8, u9, u10, u11, u12, u13, u14, u15, u16, u17].drop 1).take (Tryd.prog.cellsOf 9)) = some x1 := hf 1 _ rfl
    rw [cells_str] at h1
    simp only [List.drop_zero, List.drop_succ_cons, List.take_succ_cons, List.take_zero] at h1
    have h2 : DataW.trod enc Tryd.prog w 0 spare held m 9 (([u0, u1, u2, u3, u4, u5, u6, u7, u8, u9, u10, u11, u12, u13, u14, u15, u16, u17].drop 2).take (Tryd.prog.cellsOf 9)) = some x2 := hf 2 _ rfl
    rw [cells_str] at h2
    simp only [List.drop_zero, List.drop_succ_cons, List.take_succ_cons, List.take_zero] at h2
    have h3 : DataW.trod enc Tryd.prog w 0 spare held m 3 (([u0, u1, u2, u3, u4, u5, u6, u7, u8, u9, u10, u11, u12, u13, u14, u15, u16, u17].drop 3).take (Tryd.prog.cellsOf 3)) = some x3 := hf 3 _ rfl
    rw [cells_int] at h3
    simp only [List.drop_zero, List.drop_succ_cons, List.take_succ_cons, List.take_zero] at h3
    have h4 : DataW.trod enc Tryd.prog w 0 spare held m 35 (([u0, u1, u2, u3, u4, u5, u6, u7, u8, u9, u10, u11, u12, u13, u14, u15, u16, u17].drop 4).take (Tryd.prog.cellsOf 35)) = some x4 := hf 4 _ rfl
    rw [cells_box] at h4
    simp only [List.drop_zero, List.drop_succ_cons, List.take_succ_cons, List.take_zero] at h4
    have h5 : DataW.trod enc Tryd.prog w 0 spare held m 3 (([u0, u1, u2, u3, u4, u5, u6, u7, u8, u9, u10, u11, u12, u13, u14, u15, u16, u17].drop 10).take (Tryd.prog.cellsOf 3)) = some x5 := hf 5 _ rfl
    rw [cells_int] at h5
    simp only [List.drop_zero, List.drop_succ_cons, List.take_succ_cons, List.take_zero] at h5
    have h6 : DataW.trod enc Tryd.prog w 0 spare held m 36 (([u0, u1, u2, u3, u4, u5, u6, u7, u8, u9, u10, u11, u12, u13, u14, u15, u16, u17].drop 11).take (Tryd.prog.cellsOf 36)) = some x6 := hf 6 _ rfl
    rw [cells_dfs] at h6
    simp only [List.drop_zero, List.drop_succ_cons, List.take_succ_cons, List.take_zero] at h6
    have h7 : DataW.trod enc Tryd.prog w 0 spare held m 3 (([u0, u1, u2, u3, u4, u5, u6, u7, u8, u9, u10, u11, u12, u13, u14, u15, u16, u17].drop 12).take (Tryd.prog.cellsOf 3)) = some x7 := hf 7 _ rfl
    rw [cells_int] at h7
    simp only [List.drop_zero, List.drop_succ_cons, List.take_succ_cons, List.take_zero] at h7
    have h8 : DataW.trod enc Tryd.prog w 0 spare held m 38 (([u0, u1, u2, u3, u4, u5, u6, u7, u8, u9, u10, u11, u12, u13, u14, u15, u16, u17].drop 13).take (Tryd.prog.cellsOf 38)) = some x8 := hf 8 _ rfl
    rw [cells_cell] at h8
    simp only [List.drop_zero, List.drop_succ_cons, List.take_succ_cons, List.take_zero] at h8
    have h9 : DataW.trod enc Tryd.prog w 0 spare held m 4 (([u0, u1, u2, u3, u4, u5, u6, u7, u8, u9, u10, u11, u12, u13, u14, u15, u16, u17].drop 16).take (Tryd.prog.cellsOf 4)) = some x9 := hf 9 _ rfl
    rw [cells_bool] at h9
    simp only [List.drop_zero, List.drop_succ_cons, List.take_succ_cons, List.take_zero] at h9
    have h10 : DataW.trod enc Tryd.prog w 0 spare held m 3 (([u0, u1, u2, u3, u4, u5, u6, u7, u8, u9, u10, u11, u12, u13, u14, u15, u16, u17].drop 17).take (Tryd.prog.cellsOf 3)) = some x10 := hf 10 _ rfl
    rw [cells_int] at h10
    simp only [List.drop_zero, List.drop_succ_cons, List.take_succ_cons, List.take_zero] at h10
    obtain ⟨s0, rfl, _⟩ := cell_str h0
    obtain ⟨s1, rfl, _⟩ := cell_str h1
    obtain ⟨s2, rfl, hs2⟩ := cell_str h2
    obtain ⟨n3, rfl, _⟩ := cell_int h3
    obtain ⟨a, b, c, d, e, f, e4, ha, hb, hc, hd⟩ := row_box h4
    simp only [List.cons.injEq, and_true] at e4
    obtain ⟨rfl, rfl, rfl, rfl, rfl, rfl⟩ := e4
    obtain ⟨n5, rfl, _⟩ := cell_int h5
    obtain ⟨A, k, cc, rfl, hdf⟩ := open_dfs h6
    obtain ⟨n7, rfl, _⟩ := cell_int h7
    obtain ⟨c0, c1, c2, e8⟩ := row_cell h8
    simp only [List.cons.injEq, and_true] at e8
    obtain ⟨rfl, rfl, rfl⟩ := e8
    obtain ⟨b9, rfl⟩ := cell_bool h9
    obtain ⟨n10, rfl, _⟩ := cell_int h10
    exact ⟨⟨s0, s1, s2, n3, a, b, c, d, e, f, n5, A, k, cc, n7, c0, c1, c2, b9, n10⟩, rfl, ⟨ha, hb, hc, hd⟩, hdf, hs2⟩
/-- What a board that came in is known to meet. -/
def BdArg (w : World) (x : Bd) : Prop := BdI x ∧ DfOk w w.heap.size (.slice x.da x.dn x.dc) x.dn ∧ x.species.length ≤ maxLen
theorem rows_bds : ∀ (rows : List (List Value)), (∀ r ∈ rows, ∃ x : Bd, r = boCells x ∧ BdArg w x) → ∃ l : List Bd, l.length = rows.length ∧ rows.flatten = bosCells l ∧ ∀ x ∈ l, BdArg w x
  | [], _ => ⟨[], rfl, rfl, by simp⟩
  | r :: rows, h => by
    obtain ⟨x, rfl, hok⟩ := h r (by simp)
    obtain ⟨l, h1, h2, h3⟩ := rows_bds rows (fun r' hr => h r' (by simp [hr]))
    refine ⟨x :: l, by simp [h1], by rw [List.flatten_cons, h2, bosCells_cons], fun y hy => ?_⟩
    rcases List.mem_cons.1 hy with rfl | hy
    · exact hok
    · exact h3 y hy
theorem open_bds {v : Value} {y : DataW H × List MemPlace} (h : DataW.trod enc Tryd.prog w 0 spare held n 22 [v] = some y) : ∃ l : List Bd, RdBo w v l ∧ ∀ x ∈ l, BdArg w x := by
  obtain ⟨rows, A, c, hv, hrows, hrd⟩ := open_rows Tryd.underlying22 cells_bd (by decide) h
  obtain ⟨l, h1, h2, h3⟩ := rows_bds (w := w) rows (fun r hr => by
    obtain ⟨_, n', y', hy⟩ := hrows r hr
    exact row_bd hy)
  rw [h2, ← h1] at hrd
  exact ⟨l, hrd, h3⟩
set_option maxRecDepth 100000 in
theorem row_fa {r : List Value} {y : DataW H × List MemPlace} (h : DataW.trod enc Tryd.prog w 0 spare held n 54 r = some y) : ∃ x : Fa, r = faCells x := by
  obtain ⟨xs, m, hnm, _, hlen, hxl, hf⟩ := DataW.trod_struct Tryd.underlying54 h
  rw [(show Tryd.prog.cellsOf 54 = 3 by kernel_rfl)] at hlen
  match r, hlen, xs, hxl, hf with
  | [u0, u1, u2], _, [x0, x1, x2], _, hf =>
    have h0 : DataW.trod enc Tryd.prog w 0 spare held m 3 (([u0, u1, u2].drop 0).take (Tryd.prog.cellsOf 3)) = some x0 := hf 0 _ rfl
    rw [cells_int] at h0
    simp only [List.drop_zero, List.take_succ_cons, List.take_zero] at h0
    have h1 : DataW.trod enc Tryd.prog w 0 spare held m 3 (([u0, u1, u2].drop 1).take (Tryd.prog.cellsOf 3)) = some x1 := hf 1 _ rfl
    rw [cells_int] at h1
    simp only [List.drop_zero, List.drop_succ_cons, List.take_succ_cons, List.take_zero] at h1
    have h2 : DataW.trod enc Tryd.prog w 0 spare held m 3 (([u0, u1, u2].drop 2).take (Tryd.prog.cellsOf 3)) = some x2 := hf 2 _ rfl
    rw [cells_int] at h2
    simp only [List.drop_zero, List.drop_succ_cons, List.take_succ_cons, List.take_zero] at h2
    obtain ⟨a, rfl, _⟩ := cell_int h0
    obtain ⟨b, rfl, _⟩ := cell_int h1
    obtain ⟨c, rfl, _⟩ := cell_int h2
    exact ⟨⟨a, b, c⟩, rfl⟩
set_option maxRecDepth 100000 in
theorem row_stg {r : List Value} {y : DataW H × List MemPlace} (h : DataW.trod enc Tryd.prog w 0 spare held n 69 r = some y) : ∃ x : Stg, r = stgCells x := by
  obtain ⟨xs, m, hnm, _, hlen, hxl, hf⟩ := DataW.trod_struct Tryd.underlying69 h
  rw [(show Tryd.prog.cellsOf 69 = 4 by kernel_rfl)] at hlen
  match r, hlen, xs, hxl, hf with
  | [u0, u1, u2, u3], _, [x0, x1, x2, x3], _, hf =>
    have h0 : DataW.trod enc Tryd.prog w 0 spare held m 3 (([u0, u1, u2, u3].drop 0).take (Tryd.prog.cellsOf 3)) = some x0 := hf 0 _ rfl
    rw [cells_int] at h0
    simp only [List.drop_zero, List.take_succ_cons, List.take_zero] at h0
    have h1 : DataW.trod enc Tryd.prog w 0 spare held m 3 (([u0, u1, u2, u3].drop 1).take (Tryd.prog.cellsOf 3)) = some x1 := hf 1 _ rfl
    rw [cells_int] at h1
    simp only [List.drop_zero, List.drop_succ_cons, List.take_succ_cons, List.take_zero] at h1
    have h2 : DataW.trod enc Tryd.prog w 0 spare held m 3 (([u0, u1, u2, u3].drop 2).take (Tryd.prog.cellsOf 3)) = some x2 := hf 2 _ rfl
    rw [cells_int] at h2
    simp only [List.drop_zero, List.drop_succ_cons, List.take_succ_cons, List.take_zero] at h2
    have h3 : DataW.trod enc Tryd.prog w 0 spare held m 3 (([u0, u1, u2, u3].drop 3).take (Tryd.prog.cellsOf 3)) = some x3 := hf 3 _ rfl
    rw [cells_int] at h3
    simp only [List.drop_zero, List.drop_succ_cons, List.take_succ_cons, List.take_zero] at h3
    obtain ⟨a, rfl, _⟩ := cell_int h0
    obtain ⟨b, rfl, _⟩ := cell_int h1
    obtain ⟨c, rfl, _⟩ := cell_int h2
    obtain ⟨d, rfl, _⟩ := cell_int h3
    exact ⟨⟨a, b, c, d⟩, rfl⟩
theorem rows_of {α : Type} (g : α → List Value) : ∀ (rows : List (List Value)), (∀ r ∈ rows, ∃ x : α, r = g x) → ∃ l : List α, l.length = rows.length ∧ rows.flatten = l.flatMap g
  | [], _ => ⟨[], rfl, rfl⟩
  | r :: rows, h => by
    obtain ⟨x, rfl⟩ := h r (by simp)
    obtain ⟨l, h1, h2⟩ := rows_of g rows (fun r' hr => h r' (by simp [hr]))
    exact ⟨x :: l, by simp [h1], by rw [List.flatten_cons, h2, List.flatMap_cons]⟩
theorem open_fas {v : Value} {y : DataW H × List MemPlace} (h : DataW.trod enc Tryd.prog w 0 spare held n 28 [v] = some y) : ∃ l : List Fa, RdFa w w.heap.size v l := by
  obtain ⟨rows, A, c, hv, hrows, hrd⟩ := open_rows Tryd.underlying28 (show Tryd.prog.cellsOf 54 = 3 by kernel_rfl) (by decide) h
  obtain ⟨l, h1, h2⟩ := rows_of faCells rows (fun r hr => by
    obtain ⟨_, n', y', hy⟩ := hrows r hr
    exact row_fa hy)
  rw [h2, ← h1] at hrd
  exact ⟨l, hrd⟩
theorem open_stgs {v : Value} {y : DataW H × List MemPlace} (h : DataW.trod enc Tryd.prog w 0 spare held n 25 [v] = some y) : ∃ l : List Stg, RdSt w w.heap.size v l := by
  obtain ⟨rows, A, c, hv, hrows, hrd⟩ := open_rows Tryd.underlying25 (show Tryd.prog.cellsOf 69 = 4 by kernel_rfl) (by decide) h
  obtain ⟨l, h1, h2⟩ := rows_of stgCells rows (fun r hr => by
    obtain ⟨_, n', y', hy⟩ := hrows r hr
    exact row_stg hy)
  rw [h2, ← h1] at hrd
  exact ⟨l, hrd⟩
set_option maxRecDepth 100000 in
theorem row_sp {r : List Value} {y : DataW H × List MemPlace} (h : DataW.trod enc Tryd.prog w 0 spare held n 24 r = some y) : ∃ x : Sp, r = spCells x ∧ x.name.length ≤ maxLen := by
  obtain ⟨xs, m, hnm, _, hlen, hxl, hf⟩ := DataW.trod_struct Tryd.underlying24 h
  rw [cells_sp] at hlen
  match r, hlen, xs, hxl, hf with
  | [u0, u1, u2, u3, u4, u5, u6, u7, u8, u9, u10, u11, u12], _, [x0, x1, x2, x3, x4, x5, x6, x7, x8, x9, x10, x11, x12], _, hf =>
    have h0 : DataW.trod enc Tryd.prog w 0 spare held m 9 (([u0, u1, u2, u3, u4, u5, u6, u7, u8, u9, u10, u11, u12].drop 0).take (Tryd.prog.cellsOf 9)) = some x0 := hf 0 _ rfl
    rw [cells_str] at h0
    simp only [List.drop_zero, List.take_succ_cons, List.take_zero] at h0
    have h1 : DataW.trod enc Tryd.prog w 0 spare held m 3 (([u0, u1, u2, u3, u4, u5, u6, u7, u8, u9, u10, u11, u12].drop 1).take (Tryd.prog.cellsOf 3)) = some x1 := hf 1 _ rfl
    rw [cells_int] at h1
    simp only [List.drop_zero, List.drop_succ_cons, List.take_succ_cons, List.take_zero] at h1
    have h2 : DataW.trod enc Tryd.prog w 0 spare held m 3 (([u0, u1, u2, u3, u4, u5, u6, u7, u8, u9, u10, u11, u12].drop 2).take (Tryd.prog.cellsOf 3)) = some x2 := hf 2 _ rfl
    rw [cells_int] at h2
    simp only [List.drop_zero, List.drop_succ_cons, List.take_succ_cons, List.take_zero] at h2
    have h3 : DataW.trod enc Tryd.prog w 0 spare held m 3 (([u0, u1, u2, u3, u4, u5, u6, u7, u8, u9, u10, u11, u12].drop 3).take (Tryd.prog.cellsOf 3)) = some x3 := hf 3 _ rfl
    rw [cells_int] at h3
    simp only [List.drop_zero, List.drop_succ_cons, List.take_succ_cons, List.take_zero] at h3
    have h4 : DataW.trod enc Tryd.prog w 0 spare held m 3 (([u0, u1, u2, u3, u4, u5, u6, u7, u8, u9, u10, u11, u12].drop 4).take (Tryd.prog.cellsOf 3)) = some x4 := hf 4 _ rfl
    rw [cells_int] at h4
    simp only [List.drop_zero, List.drop_succ_cons, List.take_succ_cons, List.take_zero] at h4
    have h5 : DataW.trod enc Tryd.prog w 0 spare held m 3 (([u0, u1, u2, u3, u4, u5, u6, u7, u8, u9, u10, u11, u12].drop 5).take (Tryd.prog.cellsOf 3)) = some x5 := hf 5 _ rfl
    rw [cells_int] at h5
    simp only [List.drop_zero, List.drop_succ_cons, List.take_succ_cons, List.take_zero] at h5
    have h6 : DataW.trod enc Tryd.prog w 0 spare held m 3 (([u0, u1, u2, u3, u4, u5, u6, u7, u8, u9, u10, u11, u12].drop 6).take (Tryd.prog.cellsOf 3)) = some x6 := hf 6 _ rfl
    rw [cells_int] at h6
    simp only [List.drop_zero, List.drop_succ_cons, List.take_succ_cons, List.take_zero] at h6
    have h7 : DataW.trod enc Tryd.prog w 0 spare held m 3 (([u0, u1, u2, u3, u4, u5, u6, u7, u8, u9, u10, u11, u12].drop 7).take (Tryd.prog.cellsOf 3)) = some x7 := hf 7 _ rfl
    rw [cells_int] at h7
    simp only [List.drop_zero, List.drop_succ_cons, List.take_succ_cons, List.take_zero] at h7
    have h8 : DataW.trod enc Tryd.prog w 0 spare held m 3 (([u0, u1, u2, u3, u4, u5, u6, u7, u8, u9, u10, u11, u12].drop 8).take (Tryd.prog.cellsOf 3)) = some x8 := hf 8 _ rfl
    rw [cells_int] at h8
    simp only [List.drop_zero, List.drop_succ_cons, List.take_succ_cons, List.take_zero] at h8
    have h9 : DataW.trod enc Tryd.prog w 0 spare held m 3 (([u0, u1, u2, u3, u4, u5, u6, u7, u8, u9, u10, u11, u12].drop 9).take (Tryd.prog.cellsOf 3)) = some x9 := hf 9 _ rfl
    rw [cells_int] at h9
    simp only [List.drop_zero, List.drop_succ_cons, List.take_succ_cons, List.take_zero] at h9
    have h10 : DataW.trod enc Tryd.prog w 0 spare held m 3 (([u0, u1, u2, u3, u4, u5, u6, u7, u8, u9, u10, u11, u12].drop 10).take (Tryd.prog.cellsOf 3)) = some x10 := hf 10 _ rfl
    rw [cells_int] at h10
    simp only [List.drop_zero, List.drop_succ_cons, List.take_succ_cons, List.take_zero] at h10
    have h11 : DataW.trod enc Tryd.prog w 0 spare held m 3 (([u0, u1, u2, u3, u4, u5, u6, u7, u8, u9, u10, u11, u12].drop 11).take (Tryd.prog.cellsOf 3)) = some x11 := hf 11 _ rfl
    rw [cells_int] at h11
    simp only [List.drop_zero, List.drop_succ_cons, List.take_succ_cons, List.take_zero] at h11
    have h12 : DataW.trod enc Tryd.prog w 0 spare held m 3 (([u0, u1, u2, u3, u4, u5, u6, u7, u8, u9, u10, u11, u12].drop 12).take (Tryd.prog.cellsOf 3)) = some x12 := hf 12 _ rfl
    rw [cells_int] at h12
    simp only [List.drop_zero, List.drop_succ_cons, List.take_succ_cons, List.take_zero] at h12
    obtain ⟨s0, rfl, hs⟩ := cell_str h0
    obtain ⟨n1, rfl, _⟩ := cell_int h1
    obtain ⟨n2, rfl, _⟩ := cell_int h2
    obtain ⟨n3, rfl, _⟩ := cell_int h3
    obtain ⟨n4, rfl, _⟩ := cell_int h4
    obtain ⟨n5, rfl, _⟩ := cell_int h5
    obtain ⟨n6, rfl, _⟩ := cell_int h6
    obtain ⟨n7, rfl, _⟩ := cell_int h7
    obtain ⟨n8, rfl, _⟩ := cell_int h8
    obtain ⟨n9, rfl, _⟩ := cell_int h9
    obtain ⟨n10, rfl, _⟩ := cell_int h10
    obtain ⟨n11, rfl, _⟩ := cell_int h11
    obtain ⟨n12, rfl, _⟩ := cell_int h12
    exact ⟨⟨s0, n1, n2, n3, n4, n5, n6, n7, n8, n9, n10, n11, n12⟩, rfl, hs⟩
set_option maxRecDepth 100000 in
theorem row_sch {r : List Value} {y : DataW H × List MemPlace} (h : DataW.trod enc Tryd.prog w 0 spare held n 27 r = some y) : ∃ (x : Sc) (A : Option Addr) (c : Nat), r = scCells x (.slice A x.stages.length c) ∧ x.name.length ≤ maxLen ∧ RdSt w w.heap.size (.slice A x.stages.length c) x.stages := by
  obtain ⟨xs, m, hnm, _, hlen, hxl, hf⟩ := DataW.trod_struct Tryd.underlying27 h
  rw [cells_sch] at hlen
  match r, hlen, xs, hxl, hf with
  | [u0, u1, u2], _, [x0, x1, x2], _, hf =>
    have h0 : DataW.trod enc Tryd.prog w 0 spare held m 9 (([u0, u1, u2].drop 0).take (Tryd.prog.cellsOf 9)) = some x0 := hf 0 _ rfl
    rw [cells_str] at h0
    simp only [List.drop_zero, List.take_succ_cons, List.take_zero] at h0
    have h1 : DataW.trod enc Tryd.prog w 0 spare held m 3 (([u0, u1, u2].drop 1).take (Tryd.prog.cellsOf 3)) = some x1 := hf 1 _ rfl
    rw [cells_int] at h1
    simp only [List.drop_zero, List.drop_succ_cons, List.take_succ_cons, List.take_zero] at h1
    have h2 : DataW.trod enc Tryd.prog w 0 spare held m 25 (([u0, u1, u2].drop 2).take (Tryd.prog.cellsOf 25)) = some x2 := hf 2 _ rfl
    rw [(show Tryd.prog.cellsOf 25 = 1 by kernel_rfl)] at h2
    simp only [List.drop_zero, List.drop_succ_cons, List.take_succ_cons, List.take_zero] at h2
    obtain ⟨s0, rfl, hs⟩ := cell_str h0
    obtain ⟨n1, rfl, _⟩ := cell_int h1
    obtain ⟨l, hl⟩ := open_stgs h2
    obtain ⟨A, c, rfl, _, _⟩ := hl.form
    exact ⟨⟨s0, n1, l⟩, A, c, rfl, hs, hl⟩
end
/-- A kiln that is handed in by value. -/
def KnArg (w : World) (l : List Bd) (s : Sp) (sc : Sc) (fs : List Fa) (A : Option Addr) (c : Nat) (A2 : Option Addr) (c2 : Nat) (A3 : Option Addr) (c3 : Nat) : Prop :=
  (RdBo w (.slice A l.length c) l ∧ ∀ x ∈ l, BdArg w x) ∧ s.name.length ≤ maxLen ∧ (sc.name.length ≤ maxLen ∧ RdSt w w.heap.size (.slice A2 sc.stages.length c2) sc.stages) ∧ RdFa w w.heap.size (.slice A3 fs.length c3) fs
set_option maxRecDepth 100000 in
theorem open_kiln {H : Type} {enc : TypeId × Value → H} {W : World} {r : Reach} {b0 : Nat} {v : Value} {d : DataW H} {q : List MemPlace} (hv : Value.okWide Tryd.prog W r b0 30 v)
    (h : DataW.Trod enc Tryd.prog W 0 (fun _ => true) true 30 v d q) :
    ∃ (l : List Bd) (s : Sp) (sc : Sc) (fs : List Fa) (t : Int) (A : Option Addr) (c : Nat) (A2 : Option Addr) (c2 : Nat) (A3 : Option Addr) (c3 : Nat), v = .agg #[.slice A l.length c, .string (str s.name), .int .i64 s.green, .int .i64 s.fast, .int .i64 s.slow, .int .i64 s.safe, .int .i64 s.grad, .int .i64 s.crack, .int .i64 s.temp, .int .i64 s.depress, .int .i64 s.density, .int .i64 s.stiff, .int .i64 s.knots, .int .i64 s.shrink, .string (str sc.name), .int .i64 sc.ramp, .slice A2 sc.stages.length c2, .slice A3 fs.length c3, .int .i64 t] ∧ KnArg W l s sc fs A c A2 c2 A3 c3 := by
  obtain ⟨cs, rfl, _⟩ := okWide_struct Tryd.underlying30 hv
  obtain ⟨fuel, hf⟩ := h
  obtain ⟨xs, m, hnm, _, hlen, hxl, hf⟩ := DataW.trod_struct Tryd.underlying30 (show DataW.trod enc Tryd.prog W 0 (fun _ => true) true fuel 30 cs.toList = some _ from hf)
  rw [cells_kn] at hlen
  obtain ⟨k⟩ := cs
  match k, hlen, xs, hxl, hf with
  | [u0, u1, u2, u3, u4, u5, u6, u7, u8, u9, u10, u11, u12, u13, u14, u15, u16, u17, u18], _, [x0, x1, x2, x3, x4], _, hf =>
    have h0 : DataW.trod enc Tryd.prog W 0 (fun _ => true) true m 22 (([u0, u1, u2, u3, u4, u5, u6, u7, u8, u9, u10, u11, u12, u13, u14, u15, u16, u17, u18].drop 0).take (Tryd.prog.cellsOf 22)) = some x0 := hf 0 _ rfl
    rw [cells_bds] at h0
    simp only [List.drop_zero, List.take_succ_cons, List.take_zero] at h0
    have h1 : DataW.trod enc Tryd.prog W 0 (fun _ => true) true m 24 (([u0, u1, u2, u3, u4, u5, u6, u7, u8, u9, u10, u11, u12, u13, u14, u15, u16, u17, u18].drop 1).take (Tryd.prog.cellsOf 24)) = some x1 := hf 1 _ rfl
    rw [cells_sp] at h1
    simp only [List.drop_zero, List.drop_succ_cons, List.take_succ_cons, List.take_zero] at h1
    have h2 : DataW.trod enc Tryd.prog W 0 (fun _ => true) true m 27 (([u0, u1, u2, u3, u4, u5, u6, u7, u8, u9, u10, u11, u12, u13, u14, u15, u16, u17, u18].drop 14).take (Tryd.prog.cellsOf 27)) = some x2 := hf 2 _ rfl
    rw [cells_sch] at h2
    simp only [List.drop_zero, List.drop_succ_cons, List.take_succ_cons, List.take_zero] at h2
    have h3 : DataW.trod enc Tryd.prog W 0 (fun _ => true) true m 28 (([u0, u1, u2, u3, u4, u5, u6, u7, u8, u9, u10, u11, u12, u13, u14, u15, u16, u17, u18].drop 17).take (Tryd.prog.cellsOf 28)) = some x3 := hf 3 _ rfl
    rw [cells_fas] at h3
    simp only [List.drop_zero, List.drop_succ_cons, List.take_succ_cons, List.take_zero] at h3
    have h4 : DataW.trod enc Tryd.prog W 0 (fun _ => true) true m 3 (([u0, u1, u2, u3, u4, u5, u6, u7, u8, u9, u10, u11, u12, u13, u14, u15, u16, u17, u18].drop 18).take (Tryd.prog.cellsOf 3)) = some x4 := hf 4 _ rfl
    rw [cells_int] at h4
    simp only [List.drop_zero, List.drop_succ_cons, List.take_succ_cons, List.take_zero] at h4
    obtain ⟨l, hl, hb⟩ := open_bds h0
    obtain ⟨s, e1, hs⟩ := row_sp h1
    obtain ⟨sc, A2, c2, e2, hn, hst⟩ := row_sch h2
    obtain ⟨fs, hfs⟩ := open_fas h3
    obtain ⟨t, rfl, _⟩ := cell_int h4
    obtain ⟨A, c, rfl, _, _⟩ := hl.form
    obtain ⟨A3, c3, rfl, _, _⟩ := hfs.form
    unfold spCells at e1
    unfold scCells at e2
    simp only [List.cons.injEq, and_true] at e1 e2
    obtain ⟨rfl, rfl, rfl, rfl, rfl, rfl, rfl, rfl, rfl, rfl, rfl, rfl, rfl⟩ := e1
    obtain ⟨rfl, rfl, rfl⟩ := e2
    exact ⟨l, s, sc, fs, t, A, c, A2, c2, A3, c3, rfl, ⟨hl, hb⟩, hs, ⟨hn, hst⟩, hfs⟩

def laidL : List (String × DataW Unit) := [("sawmill/kiln.stillAir", Rows.laid_sawmill_kiln_stillAir)]

set_option maxRecDepth 100000 in
theorem door_met (os : Os) (args : Array Value) : laidMetH Tryd.prog laidL ((World.doorLaid Tryd.prog 29 os).forCall (fun _ _ => 0) ⟨#[], args, []⟩).memory :=
  laidMetH_of_parts3 (fuel := 8) (laidMet_of_run' 8 (by kernel_rfl) (by kernel_rfl)) (by kernel_rfl) (by kernel_rfl)

/-- A variable that is an array of bools, read as known ones: its cells. -/
theorem bools_of {P : Program} {W : World} {g : Nat} {name : String} {t e : TypeId} {n fuel : Nat} {cs : Array Value} {l : List Bool} {p : List MemPlace} {spare : Nat → Bool} {held : Bool} {H : Type} {enc : TypeId × Value → H} (hg : P.globalNamed name = some g) (ht : P.underlying t = some (.array n e)) (he : P.underlying e = some .bool) (hce : P.cellsOf e = 1)
    (hv : W.var? P name = some cs) (hd : DataW.trod enc P W 0 spare held fuel t cs.toList = some (.agg (l.map fun b => .lit (.bool b)), p)) : W.rangeAt g 0 (l.map fun b => .bool b) := by
  obtain ⟨xs, m, _, hx, _, hn, hel⟩ := DataW.trod_array ht hd
  simp only [Prod.mk.injEq, DataW.agg.injEq] at hx
  have hll : l.length = n := by have := congrArg List.length hx.1; simpa [hn] using this
  intro j v hj
  rw [Nat.zero_add, World.var?_cell hg hv j]
  have hjl : j < l.length := by have := (List.getElem?_eq_some_iff.1 hj).1; simpa using this
  have h1 := hel j (by omega)
  rw [hce, Nat.mul_one, List.getElem?_eq_getElem (by omega)] at h1
  obtain ⟨b, e1, e2⟩ := DataW.trod_bool he h1
  have h2 : (xs.map (·.1))[j]? = some (.lit (.bool b)) := by rw [List.getElem?_map, List.getElem?_eq_getElem (by omega), e2]; rfl
  rw [← hx.1, List.getElem?_map, List.getElem?_eq_getElem hjl] at h2
  simp only [Option.map_some, Option.some.injEq, DataW.lit.injEq, Lit.bool.injEq] at h2
  rw [List.getElem?_map, List.getElem?_eq_getElem hjl] at hj
  simp only [Option.map_some, Option.some.injEq] at hj
  have h3 : cs.toList[j]? = some (.bool b) := by
    have : (cs.toList.drop j)[0]? = some (.bool b) := by
      have h4 := congrArg (·[0]?) e1
      simpa [List.getElem?_take] using h4
    simpa using this
  rw [← hj, h2, ← Array.getElem?_toList, h3]

theorem vars_of_laid {W : World} (h : laidMetH Tryd.prog laidL W) : VarsK W := by
  rw [MakeChecks.laidMetH_plain _ _ _ (by kernel_rfl)] at h
  obtain ⟨ps, ⟨g0, t0, cs0, f0, p0, q0, hg0, ht0, hv0, hd0, _, _⟩, _, _⟩ := h
  obtain rfl := Option.some.inj ((show Tryd.prog.globalNamed "sawmill/kiln.stillAir" = some 0 by kernel_rfl).symm.trans hg0)
  obtain rfl := Option.some.inj ((show (Tryd.prog.globals[0]?).map (·.type) = some 113 by kernel_rfl).symm.trans ht0)
  have hr := bools_of (l := [false, false, true, false]) hg0 Tryd.underlying113 Tryd.underlying4 cells_bool hv0 hd0
  have h0 := hr 0 _ rfl
  exact ⟨⟨h0, hr 1 _ rfl, hr 2 _ rfl, hr 3 _ rfl⟩, World.block_lt_of_cell? W _ h0⟩

theorem topKiln_walk (l : List Bd) (s : Sp) (sc : Sc) (fs : List Fa) (t : Int) (A : Option Addr) (c : Nat) (A2 : Option Addr) (c2 : Nat) (A3 : Option Addr) (c3 : Nat) (f : Int) (w : World) (h : KnArg w l s sc fs A c A2 c2 A3 c3) (_ : InI f) (hv : VarsK w) :
    Calls Tryd.prog 3 #[.agg #[.slice A l.length c, .string (str s.name), .int .i64 s.green, .int .i64 s.fast, .int .i64 s.slow, .int .i64 s.safe, .int .i64 s.grad, .int .i64 s.crack, .int .i64 s.temp, .int .i64 s.depress, .int .i64 s.density, .int .i64 s.stiff, .int .i64 s.knots, .int .i64 s.shrink, .string (str sc.name), .int .i64 sc.ramp, .slice A2 sc.stages.length c2, .slice A3 fs.length c3, .int .i64 t], .int .i64 f] w (BoolB true w) :=
  topKiln_core l s sc fs t A c A2 c2 A3 c3 f w h.1.1 h.2.2.1.2 h.2.2.2 (fun b hb => ⟨(h.1.2 b hb).1, (h.1.2 b hb).2.1, by rw [size_str]; have h9 := (h.1.2 b hb).2.2; simp only [maxLen] at h9; omega⟩)
    (by rw [size_str]; have h9 := h.2.1; simp only [maxLen] at h9; omega) (by rw [size_str]; have h9 := h.2.2.1.1; simp only [maxLen] at h9; omega) hv

end Go.Proofs.YthineckpociomaaDoor
