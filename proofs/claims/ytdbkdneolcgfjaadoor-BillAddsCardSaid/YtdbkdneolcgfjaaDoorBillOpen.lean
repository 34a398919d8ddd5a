/-
  Arguments of the laws of bills, opened.
-/
import Derived.Test.YtdbkdneolcgfjaaDoorRow
import Derived.Test.YtdbkdneolcgfjaaDoorBillI
namespace Go.Proofs.YtdbkdneolcgfjaaDoor
open Go.ChangeShapes Go.WideShapes Go.ChangeAt Go.RowKit Saw

def I64 (n : Int) : Prop := -9223372036854775808 ≤ n ∧ n ≤ 9223372036854775807
theorem wf_i64b {n : Int} (h : (Lit.int .i64 n).wf = true) : I64 n := by
  have := bounds_i64 h
  exact ⟨by omega, by omega⟩
theorem rows_ints : ∀ (rows : List (List Value)), (∀ r ∈ rows, ∃ n : Int, r = [.int .i64 n]) → ∃ l : List Int, l.length = rows.length ∧ rows.flatten = ints l
  | [], _ => ⟨[], rfl, rfl⟩
  | r :: rows, h => by
    obtain ⟨n, rfl⟩ := h r (by simp)
    obtain ⟨l, h1, h2⟩ := rows_ints rows (fun r' hr => h r' (by simp [hr]))
    exact ⟨n :: l, by simp [h1], by rw [List.flatten_cons, h2]; rfl⟩
theorem open_ints {H : Type} {enc : TypeId × Value → H} {w : World} {spare : Nat → Bool} {held : Bool} {n : Nat} {v : Value} {y : DataW H × List MemPlace} (h : DataW.trod enc Tryd.prog w 0 spare held n 51 [v] = some y) :
    ∃ l : List Int, RdI w w.heap.size v l := by
  obtain ⟨rows, A, c, hv, hrows, hrd⟩ := open_rows Tryd.underlying51 (show Tryd.prog.cellsOf 3 = 1 by kernel_rfl) (by decide) h
  obtain ⟨l, h1, h2⟩ := rows_ints rows (fun r hr => by
    obtain ⟨hl1, n', y', hy⟩ := hrows r hr
    obtain ⟨c0, rfl⟩ : ∃ c0, r = [c0] := List.length_eq_one_iff.1 hl1
    obtain ⟨n0, m0, _, _⟩ := DataW.trod_int Tryd.underlying3 hy
    exact ⟨n0, m0⟩)
  rw [h2, ← h1] at hrd
  exact ⟨l, hrd⟩

theorem row_pr {H : Type} {enc : TypeId × Value → H} {w : World} {spare : Nat → Bool} {held : Bool} {n : Nat} {r : List Value} {y : DataW H × List MemPlace} (h : DataW.trod enc Tryd.prog w 0 spare held n 53 r = some y) :
    ∃ (x : Pr) (lv pv : Value), r = prCells x lv pv ∧ x.name.length ≤ maxLen ∧ RdI w w.heap.size lv x.lens ∧ RdI w w.heap.size pv x.prices := by
  obtain ⟨hlen, m, hf⟩ := row_fields Tryd.underlying53 (by kernel_rfl) (by kernel_rfl) h
  obtain ⟨c0, z0, e0, t0⟩ := hf 0 _ rfl
  obtain ⟨s0, es0, _, hs0⟩ := DataW.trod_string Tryd.underlying9 t0
  injection es0 with es0 _
  subst es0
  obtain ⟨c1, z1, e1, t1⟩ := hf 1 _ rfl
  obtain ⟨n1, m1, _, w1⟩ := DataW.trod_int Tryd.underlying3 t1
  injection m1 with m1 _
  subst m1
  obtain ⟨c2, z2, e2, t2⟩ := hf 2 _ rfl
  obtain ⟨n2, m2, _, w2⟩ := DataW.trod_int Tryd.underlying3 t2
  injection m2 with m2 _
  subst m2
  obtain ⟨c3, z3, e3, t3⟩ := hf 3 _ rfl
  obtain ⟨n3, m3, _, w3⟩ := DataW.trod_int Tryd.underlying3 t3
  injection m3 with m3 _
  subst m3
  obtain ⟨c4, z4, e4, t4⟩ := hf 4 _ rfl
  obtain ⟨n4, m4, _, w4⟩ := DataW.trod_int Tryd.underlying3 t4
  injection m4 with m4 _
  subst m4
  obtain ⟨c5, z5, e5, t5⟩ := hf 5 _ rfl
  obtain ⟨l5, hl5⟩ := open_ints t5
  obtain ⟨c6, z6, e6, t6⟩ := hf 6 _ rfl
  obtain ⟨l6, hl6⟩ := open_ints t6
  refine ⟨⟨bts s0, n1, n2, n3, n4, l5, l6⟩, c5, c6, ?_, by rw [← size_bts]; exact hs0, hl5, hl6⟩
  apply List.ext_getElem?
  intro j
  by_cases hj : j < 7
  · match j, hj with
    | 0, _ => rw [e0]; exact congrArg (fun t => some (Value.string t)) (str_bts s0).symm
    | 1, _ => exact e1
    | 2, _ => exact e2
    | 3, _ => exact e3
    | 4, _ => exact e4
    | 5, _ => exact e5
    | 6, _ => exact e6
  · rw [List.getElem?_eq_none (by rw [hlen]; show 7 ≤ j; omega), List.getElem?_eq_none (by show 7 ≤ j; omega)]

theorem row_it {H : Type} {enc : TypeId × Value → H} {w : World} {spare : Nat → Bool} {held : Bool} {n : Nat} {r : List Value} {y : DataW H × List MemPlace} (h : DataW.trod enc Tryd.prog w 0 spare held n 28 r = some y) :
    ∃ i : It, r = itCells i ∧ I64 i.product ∧ I64 i.length ∧ I64 i.count ∧ I64 i.price := by
  obtain ⟨hlen, m, hf⟩ := row_fields Tryd.underlying28 (by kernel_rfl) (by kernel_rfl) h
  obtain ⟨c0, z0, e0, t0⟩ := hf 0 _ rfl
  obtain ⟨n0, m0, _, w0⟩ := DataW.trod_int Tryd.underlying3 t0
  injection m0 with m0 _
  subst m0
  obtain ⟨c1, z1, e1, t1⟩ := hf 1 _ rfl
  obtain ⟨n1, m1, _, w1⟩ := DataW.trod_int Tryd.underlying3 t1
  injection m1 with m1 _
  subst m1
  obtain ⟨c2, z2, e2, t2⟩ := hf 2 _ rfl
  obtain ⟨n2, m2, _, w2⟩ := DataW.trod_int Tryd.underlying3 t2
  injection m2 with m2 _
  subst m2
  obtain ⟨c3, z3, e3, t3⟩ := hf 3 _ rfl
  obtain ⟨n3, m3, _, w3⟩ := DataW.trod_int Tryd.underlying3 t3
  injection m3 with m3 _
  subst m3
  refine ⟨⟨n0, n1, n2, n3⟩, ?_, wf_i64b w0, wf_i64b w1, wf_i64b w2, wf_i64b w3⟩
  apply List.ext_getElem?
  intro j
  by_cases hj : j < 4
  · match j, hj with
    | 0, _ => exact e0
    | 1, _ => exact e1
    | 2, _ => exact e2
    | 3, _ => exact e3
  · rw [List.getElem?_eq_none (by rw [hlen]; show 4 ≤ j; omega), List.getElem?_eq_none (by show 4 ≤ j; omega)]

theorem row_ti {H : Type} {enc : TypeId × Value → H} {w : World} {spare : Nat → Bool} {held : Bool} {n : Nat} {r : List Value} {y : DataW H × List MemPlace} (h : DataW.trod enc Tryd.prog w 0 spare held n 56 r = some y) :
    ∃ t : Ti, r = tiCells t ∧ I64 t.lo ∧ I64 t.off := by
  obtain ⟨hlen, m, hf⟩ := row_fields Tryd.underlying56 (by kernel_rfl) (by kernel_rfl) h
  obtain ⟨c0, z0, e0, t0⟩ := hf 0 _ rfl
  obtain ⟨n0, m0, _, w0⟩ := DataW.trod_int Tryd.underlying3 t0
  injection m0 with m0 _
  subst m0
  obtain ⟨c1, z1, e1, t1⟩ := hf 1 _ rfl
  obtain ⟨n1, m1, _, w1⟩ := DataW.trod_int Tryd.underlying3 t1
  injection m1 with m1 _
  subst m1
  refine ⟨⟨n0, n1⟩, ?_, wf_i64b w0, wf_i64b w1⟩
  apply List.ext_getElem?
  intro j
  by_cases hj : j < 2
  · match j, hj with
    | 0, _ => exact e0
    | 1, _ => exact e1
  · rw [List.getElem?_eq_none (by rw [hlen]; show 2 ≤ j; omega), List.getElem?_eq_none (by show 2 ≤ j; omega)]

theorem rows_prs (w : World) : ∀ (rows : List (List Value)), (∀ r ∈ rows, ∃ (x : Pr) (lv pv : Value), r = prCells x lv pv ∧ x.name.length ≤ maxLen ∧ RdI w w.heap.size lv x.lens ∧ RdI w w.heap.size pv x.prices) →
    ∃ m : List (Pr × Value × Value), m.length = rows.length ∧ rows.flatten = prsCells m ∧ (∀ y ∈ m, RdI w w.heap.size y.2.1 y.1.lens ∧ RdI w w.heap.size y.2.2 y.1.prices) ∧ ∀ y ∈ m, y.1.name.length ≤ maxLen
  | [], _ => ⟨[], rfl, rfl, by simp, by simp⟩
  | r :: rows, h => by
    obtain ⟨x, lv, pv, rfl, hn, h5, h6⟩ := h r (by simp)
    obtain ⟨m, h1, h2, h3, h4⟩ := rows_prs w rows (fun r' hr => h r' (by simp [hr]))
    refine ⟨(x, lv, pv) :: m, by simp [h1], by rw [List.flatten_cons, h2]; rfl, ?_, ?_⟩
    · intro y hy
      rcases List.mem_cons.1 hy with rfl | hy
      · exact ⟨h5, h6⟩
      · exact h3 y hy
    · intro y hy
      rcases List.mem_cons.1 hy with rfl | hy
      · exact hn
      · exact h4 y hy
theorem rows_its : ∀ (rows : List (List Value)), (∀ r ∈ rows, ∃ i : It, r = itCells i ∧ I64 i.product ∧ I64 i.length ∧ I64 i.count ∧ I64 i.price) → ∃ l : List It, l.length = rows.length ∧ rows.flatten = l.flatMap itCells
  | [], _ => ⟨[], rfl, rfl⟩
  | r :: rows, h => by
    obtain ⟨i, rfl, _⟩ := h r (by simp)
    obtain ⟨l, h1, h2⟩ := rows_its rows (fun r' hr => h r' (by simp [hr]))
    exact ⟨i :: l, by simp [h1], by rw [List.flatten_cons, h2, List.flatMap_cons]⟩
theorem rows_tis : ∀ (rows : List (List Value)), (∀ r ∈ rows, ∃ t : Ti, r = tiCells t ∧ I64 t.lo ∧ I64 t.off) → ∃ l : List Ti, l.length = rows.length ∧ rows.flatten = l.flatMap tiCells ∧ ∀ t ∈ l, I64 t.lo ∧ I64 t.off
  | [], _ => ⟨[], rfl, rfl, by simp⟩
  | r :: rows, h => by
    obtain ⟨i, rfl, ho⟩ := h r (by simp)
    obtain ⟨l, h1, h2, h3⟩ := rows_tis rows (fun r' hr => h r' (by simp [hr]))
    refine ⟨i :: l, by simp [h1], by rw [List.flatten_cons, h2, List.flatMap_cons], ?_⟩
    intro y hy
    rcases List.mem_cons.1 hy with rfl | hy
    · exact ho
    · exact h3 y hy
section
variable {H : Type} {enc : TypeId × Value → H} {w : World} {spare : Nat → Bool} {held : Bool} {n : Nat} {v : Value} {y : DataW H × List MemPlace}
theorem open_prs (h : DataW.trod enc Tryd.prog w 0 spare held n 22 [v] = some y) : ∃ c : List Pr, RdPr w w.heap.size v c ∧ ∀ x ∈ c, x.name.length ≤ maxLen := by
  obtain ⟨rows, A, c, hv, hrows, hrd⟩ := open_rows Tryd.underlying22 (show Tryd.prog.cellsOf 53 = 7 by kernel_rfl) (by decide) h
  obtain ⟨m, h1, h2, h3, h4⟩ := rows_prs w rows (fun r hr => by obtain ⟨_, n', y', hy⟩ := hrows r hr; exact row_pr hy)
  rw [h2, ← h1] at hrd
  refine ⟨m.map (·.1), ⟨m, rfl, hrd, h3⟩, ?_⟩
  intro x hx
  obtain ⟨z, hz, rfl⟩ := List.mem_map.1 hx
  exact h4 z hz
theorem open_its (h : DataW.trod enc Tryd.prog w 0 spare held n 23 [v] = some y) : ∃ l : List It, RdIt w w.heap.size v l := by
  obtain ⟨rows, A, c, hv, hrows, hrd⟩ := open_rows Tryd.underlying23 (show Tryd.prog.cellsOf 28 = 4 by kernel_rfl) (by decide) h
  obtain ⟨l, h1, h2⟩ := rows_its rows (fun r hr => by obtain ⟨_, n', y', hy⟩ := hrows r hr; exact row_it hy)
  rw [h2, ← h1] at hrd
  exact ⟨l, hrd⟩
theorem open_tis (h : DataW.trod enc Tryd.prog w 0 spare held n 24 [v] = some y) : ∃ l : List Ti, RdTi w w.heap.size v l ∧ ∀ t ∈ l, I64 t.lo ∧ I64 t.off := by
  obtain ⟨rows, A, c, hv, hrows, hrd⟩ := open_rows Tryd.underlying24 (show Tryd.prog.cellsOf 56 = 2 by kernel_rfl) (by decide) h
  obtain ⟨l, h1, h2, h3⟩ := rows_tis rows (fun r hr => by obtain ⟨_, n', y', hy⟩ := hrows r hr; exact row_ti hy)
  rw [h2, ← h1] at hrd
  exact ⟨l, hrd, h3⟩
end

def InvOk (w : World) (c : List Pr) (l : List It) (t : List Ti) (Ac Al At : Option Addr) (cc cl ct : Nat) : Prop :=
  RdPr w w.heap.size (.slice Ac c.length cc) c ∧ RdIt w w.heap.size (.slice Al l.length cl) l ∧ RdTi w w.heap.size (.slice At t.length ct) t ∧ ∀ x ∈ c, x.name.length ≤ maxLen

set_option maxRecDepth 100000 in
theorem open_inv {H : Type} {enc : TypeId × Value → H} {W : World} {r : Reach} {b0 : Nat} {v : Value} {d : DataW H} {p : List MemPlace} (hv : Value.okWide Tryd.prog W r b0 26 v)
    (h : DataW.Trod enc Tryd.prog W 0 (fun _ => true) true 26 v d p) :
    ∃ (c : List Pr) (l : List It) (t : List Ti) (Ac Al At : Option Addr) (cc cl ct : Nat), v = .agg #[.slice Ac c.length cc, .slice Al l.length cl, .slice At t.length ct] ∧ InvOk W c l t Ac Al At cc cl ct := by
  obtain ⟨cs, rfl, _⟩ := okWide_struct Tryd.underlying26 hv
  obtain ⟨fuel, hf⟩ := h
  obtain ⟨hlen, m, hff⟩ := row_fields Tryd.underlying26 (by kernel_rfl) (by kernel_rfl) (show DataW.trod enc Tryd.prog W 0 (fun _ => true) true fuel 26 cs.toList = some _ from hf)
  obtain ⟨c0, z0, e0, t0⟩ := hff 0 _ rfl
  obtain ⟨c1, z1, e1, t1⟩ := hff 1 _ rfl
  obtain ⟨c2, z2, e2, t2⟩ := hff 2 _ rfl
  obtain ⟨c, hc, hcn⟩ := open_prs t0
  obtain ⟨l, hl⟩ := open_its t1
  obtain ⟨t, ht, _⟩ := open_tis t2
  obtain ⟨Ac, cc, rfl, _, _⟩ := hc.form
  obtain ⟨Al, cl, rfl, _, _⟩ := hl.form
  obtain ⟨At, ct, rfl, _, _⟩ := ht.form
  refine ⟨c, l, t, Ac, Al, At, cc, cl, ct, ?_, hc, hl, ht, hcn⟩
  congr 1
  apply Array.ext'
  apply List.ext_getElem?
  intro j
  by_cases hj : j < 3
  · match j, hj with
    | 0, _ => exact e0
    | 1, _ => exact e1
    | 2, _ => exact e2
  · rw [List.getElem?_eq_none (by rw [hlen]; show 3 ≤ j; omega), List.getElem?_eq_none (by show 3 ≤ j; omega)]

set_option maxRecDepth 100000 in
theorem open_item {H : Type} {enc : TypeId × Value → H} {W : World} {r : Reach} {b0 : Nat} {v : Value} {d : DataW H} {p : List MemPlace} (hv : Value.okWide Tryd.prog W r b0 28 v)
    (h : DataW.Trod enc Tryd.prog W 0 (fun _ => true) true 28 v d p) :
    ∃ i : It, v = .agg #[.int .i64 i.product, .int .i64 i.length, .int .i64 i.count, .int .i64 i.price] ∧ (I64 i.product ∧ I64 i.length ∧ I64 i.count ∧ I64 i.price) := by
  obtain ⟨cs, rfl, _⟩ := okWide_struct Tryd.underlying28 hv
  obtain ⟨fuel, hf⟩ := h
  obtain ⟨i, hx, hok⟩ := row_it (show DataW.trod enc Tryd.prog W 0 (fun _ => true) true fuel 28 cs.toList = some _ from hf)
  refine ⟨i, ?_, hok⟩
  congr 1
  exact Array.ext' hx

set_option maxRecDepth 100000 in
theorem open_tiers {H : Type} {enc : TypeId × Value → H} {W : World} {r : Reach} {b0 : Nat} {v : Value} {d : DataW H} {p : List MemPlace} (_hv : Value.okWide Tryd.prog W r b0 24 v)
    (h : DataW.Trod enc Tryd.prog W 0 (fun _ => true) true 24 v d p) :
    ∃ (l : List Ti) (A : Option Addr) (c : Nat), v = .slice A l.length c ∧ (RdTi W W.heap.size (.slice A l.length c) l ∧ ∀ t ∈ l, I64 t.lo ∧ I64 t.off) := by
  obtain ⟨a, len, cap, rfl⟩ := okWide_slice Tryd.underlying24 _hv
  obtain ⟨fuel, hf⟩ := h
  obtain ⟨l, hl, ho⟩ := open_tis (v := .slice a len cap) hf
  obtain ⟨A, c, he, _, _⟩ := hl.form
  rw [he] at hl ⊢
  exact ⟨l, A, c, rfl, hl, ho⟩
set_option maxRecDepth 100000 in
theorem open_items {H : Type} {enc : TypeId × Value → H} {W : World} {r : Reach} {b0 : Nat} {v : Value} {d : DataW H} {p : List MemPlace} (_hv : Value.okWide Tryd.prog W r b0 23 v)
    (h : DataW.Trod enc Tryd.prog W 0 (fun _ => true) true 23 v d p) :
    ∃ (l : List It) (A : Option Addr) (c : Nat), v = .slice A l.length c ∧ RdIt W W.heap.size (.slice A l.length c) l := by
  obtain ⟨a, len, cap, rfl⟩ := okWide_slice Tryd.underlying23 _hv
  obtain ⟨fuel, hf⟩ := h
  obtain ⟨l, hl⟩ := open_its (v := .slice a len cap) hf
  obtain ⟨A, c, he, _, _⟩ := hl.form
  rw [he] at hl ⊢
  exact ⟨l, A, c, rfl, hl⟩

end Go.Proofs.YtdbkdneolcgfjaaDoor
