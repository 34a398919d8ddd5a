/-
  Arguments of the laws of products, opened.
-/
import Derived.Test.YtokgonpeolppnaaDoorRow
import Derived.Test.YtokgonpeolppnaaDoorPrO
namespace Go.Proofs.YtokgonpeolppnaaDoor
open Go.ChangeShapes Go.WideShapes Go.ChangeAt Go.RowKit Saw

def I64 (n : Int) : Prop := -9223372036854775808 ≤ n ∧ n ≤ 9223372036854775807
theorem wf_i64b {n : Int} (h : (Lit.int .i64 n).wf = true) : I64 n := by
  have := bounds_i64 h
  exact ⟨by omega, by omega⟩
theorem rows_ints : ∀ (rows : List (List Value)), (∀ r ∈ rows, ∃ n : Int, r = [.int .i64 n]) → ∃ l : List Int, l.length = rows.length ∧ rows.flatten = ints l
  | [], _ => ⟨[], rfl, rfl⟩
  | r :: rows, h => by
    obtain ⟨n, rfl⟩ := h r (by simp)
    obtain ⟨l, h1, h2⟩ := rows_ints rows (fun r' hr => h r' (by simp [hr]))
    exact ⟨n :: l, by simp [h1], by rw [List.flatten_cons, h2]; rfl⟩
theorem open_ints {H : Type} {enc : TypeId × Value → H} {w : World} {spare : Nat → Bool} {held : Bool} {n : Nat} {v : Value} {y : DataW H × List MemPlace} (h : DataW.trod enc Tryd.prog w 0 spare held n 27 [v] = some y) :
    ∃ l : List Int, RdI w w.heap.size v l := by
  obtain ⟨rows, A, c, hv, hrows, hrd⟩ := open_rows Tryd.underlying27 (show Tryd.prog.cellsOf 3 = 1 by kernel_rfl) (by decide) h
  obtain ⟨l, h1, h2⟩ := rows_ints rows (fun r hr => by
    obtain ⟨hl1, n', y', hy⟩ := hrows r hr
    obtain ⟨c0, rfl⟩ : ∃ c0, r = [c0] := List.length_eq_one_iff.1 hl1
    obtain ⟨n0, m0, _, _⟩ := DataW.trod_int Tryd.underlying3 hy
    exact ⟨n0, m0⟩)
  rw [h2, ← h1] at hrd
  exact ⟨l, hrd⟩

theorem row_pr {H : Type} {enc : TypeId × Value → H} {w : World} {spare : Nat → Bool} {held : Bool} {n : Nat} {r : List Value} {y : DataW H × List MemPlace} (h : DataW.trod enc Tryd.prog w 0 spare held n 29 r = some y) :
    ∃ (x : Pr) (lv pv : Value), r = prCells x lv pv ∧ x.name.length ≤ maxLen ∧ RdI w w.heap.size lv x.lens ∧ RdI w w.heap.size pv x.prices := by
  obtain ⟨hlen, m, hf⟩ := row_fields Tryd.underlying29 (by kernel_rfl) (by kernel_rfl) h
  obtain ⟨c0, z0, e0, t0⟩ := hf 0 _ rfl
  obtain ⟨s0, es0, _, hs0⟩ := DataW.trod_string Tryd.underlying9 t0
  injection es0 with es0 _
  subst es0
  obtain ⟨c1, z1, e1, t1⟩ := hf 1 _ rfl
  obtain ⟨n1, m1, _, w1⟩ := DataW.trod_int Tryd.underlying3 t1
  injection m1 with m1 _
  subst m1
  obtain ⟨c2, z2, e2, t2⟩ := hf 2 _ rfl
  obtain ⟨n2, m2, _, w2⟩ := DataW.trod_int Tryd.underlying3 t2
  injection m2 with m2 _
  subst m2
  obtain ⟨c3, z3, e3, t3⟩ := hf 3 _ rfl
  obtain ⟨n3, m3, _, w3⟩ := DataW.trod_int Tryd.underlying3 t3
  injection m3 with m3 _
  subst m3
  obtain ⟨c4, z4, e4, t4⟩ := hf 4 _ rfl
  obtain ⟨n4, m4, _, w4⟩ := DataW.trod_int Tryd.underlying3 t4
  injection m4 with m4 _
  subst m4
  obtain ⟨c5, z5, e5, t5⟩ := hf 5 _ rfl
  obtain ⟨l5, hl5⟩ := open_ints t5
  obtain ⟨c6, z6, e6, t6⟩ := hf 6 _ rfl
  obtain ⟨l6, hl6⟩ := open_ints t6
  refine ⟨⟨bts s0, n1, n2, n3, n4, l5, l6⟩, c5, c6, ?_, by rw [← size_bts]; exact hs0, hl5, hl6⟩
  apply List.ext_getElem?
  intro j
  by_cases hj : j < 7
  · match j, hj with
    | 0, _ => rw [e0]; exact congrArg (fun t => some (Value.string t)) (str_bts s0).symm
    | 1, _ => exact e1
    | 2, _ => exact e2
    | 3, _ => exact e3
    | 4, _ => exact e4
    | 5, _ => exact e5
    | 6, _ => exact e6
  · rw [List.getElem?_eq_none (by rw [hlen]; show 7 ≤ j; omega), List.getElem?_eq_none (by show 7 ≤ j; omega)]

theorem rows_prs (w : World) : ∀ (rows : List (List Value)), (∀ r ∈ rows, ∃ (x : Pr) (lv pv : Value), r = prCells x lv pv ∧ x.name.length ≤ maxLen ∧ RdI w w.heap.size lv x.lens ∧ RdI w w.heap.size pv x.prices) →
    ∃ m : List (Pr × Value × Value), m.length = rows.length ∧ rows.flatten = prsCells m ∧ (∀ y ∈ m, RdI w w.heap.size y.2.1 y.1.lens ∧ RdI w w.heap.size y.2.2 y.1.prices) ∧ ∀ y ∈ m, y.1.name.length ≤ maxLen
  | [], _ => ⟨[], rfl, rfl, by simp, by simp⟩
  | r :: rows, h => by
    obtain ⟨x, lv, pv, rfl, hn, h5, h6⟩ := h r (by simp)
    obtain ⟨m, h1, h2, h3, h4⟩ := rows_prs w rows (fun r' hr => h r' (by simp [hr]))
    refine ⟨(x, lv, pv) :: m, by simp [h1], by rw [List.flatten_cons, h2]; rfl, ?_, ?_⟩
    · intro y hy
      rcases List.mem_cons.1 hy with rfl | hy
      · exact ⟨h5, h6⟩
      · exact h3 y hy
    · intro y hy
      rcases List.mem_cons.1 hy with rfl | hy
      · exact hn
      · exact h4 y hy
section
variable {H : Type} {enc : TypeId × Value → H} {w : World} {spare : Nat → Bool} {held : Bool} {n : Nat} {v : Value} {y : DataW H × List MemPlace}
theorem open_prs (h : DataW.trod enc Tryd.prog w 0 spare held n 22 [v] = some y) : ∃ c : List Pr, RdPr w w.heap.size v c ∧ ∀ x ∈ c, x.name.length ≤ maxLen := by
  obtain ⟨rows, A, c, hv, hrows, hrd⟩ := open_rows Tryd.underlying22 (show Tryd.prog.cellsOf 29 = 7 by kernel_rfl) (by decide) h
  obtain ⟨m, h1, h2, h3, h4⟩ := rows_prs w rows (fun r hr => by obtain ⟨_, n', y', hy⟩ := hrows r hr; exact row_pr hy)
  rw [h2, ← h1] at hrd
  refine ⟨m.map (·.1), ⟨m, rfl, hrd, h3⟩, ?_⟩
  intro x hx
  obtain ⟨z, hz, rfl⟩ := List.mem_map.1 hx
  exact h4 z hz
end

set_option maxRecDepth 100000 in
theorem open_catalog {H : Type} {enc : TypeId × Value → H} {W : World} {r : Reach} {b0 : Nat} {v : Value} {d : DataW H} {p : List MemPlace} (_hv : Value.okWide Tryd.prog W r b0 22 v)
    (h : DataW.Trod enc Tryd.prog W 0 (fun _ => true) true 22 v d p) :
    ∃ (l : List Pr) (A : Option Addr) (c : Nat), v = .slice A l.length c ∧ (RdPr W W.heap.size (.slice A l.length c) l ∧ ∀ x ∈ l, x.name.length ≤ maxLen) := by
  obtain ⟨a, len, cap, rfl⟩ := okWide_slice Tryd.underlying22 _hv
  obtain ⟨fuel, hf⟩ := h
  obtain ⟨l, hl, ho⟩ := open_prs (v := .slice a len cap) hf
  obtain ⟨A, c, he, _, _⟩ := hl.form
  rw [he] at hl ⊢
  exact ⟨l, A, c, rfl, hl, ho⟩

/-- A product that is handed in by value. -/
def PrArg (w : World) (x : Pr) (A1 A2 : Option Addr) (c1 c2 : Nat) : Prop :=
  RdI w w.heap.size (.slice A1 x.lens.length c1) x.lens ∧ RdI w w.heap.size (.slice A2 x.prices.length c2) x.prices ∧ x.name.length ≤ maxLen
set_option maxRecDepth 100000 in
theorem open_product {H : Type} {enc : TypeId × Value → H} {W : World} {r : Reach} {b0 : Nat} {v : Value} {d : DataW H} {p : List MemPlace} (hv : Value.okWide Tryd.prog W r b0 29 v)
    (h : DataW.Trod enc Tryd.prog W 0 (fun _ => true) true 29 v d p) :
    ∃ (x : Pr) (A1 A2 : Option Addr) (c1 c2 : Nat), v = .agg #[.string (str x.name), .int .i64 x.thick, .int .i64 x.width, .int .i64 x.allow, .int .i64 x.wane, .slice A1 x.lens.length c1, .slice A2 x.prices.length c2] ∧ PrArg W x A1 A2 c1 c2 := by
  obtain ⟨cs, rfl, _⟩ := okWide_struct Tryd.underlying29 hv
  obtain ⟨fuel, hf⟩ := h
  obtain ⟨x, lv, pv, hx, hn, h1, h2⟩ := row_pr (show DataW.trod enc Tryd.prog W 0 (fun _ => true) true fuel 29 cs.toList = some _ from hf)
  obtain ⟨A1, c1, rfl, _, _⟩ := h1.form
  obtain ⟨A2, c2, rfl, _, _⟩ := h2.form
  refine ⟨x, A1, A2, c1, c2, ?_, h1, h2, hn⟩
  congr 1
  exact Array.ext' hx

end Go.Proofs.YtokgonpeolppnaaDoor
