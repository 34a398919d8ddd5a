/-
  Arguments of the laws of schedules, opened.
-/
import Derived.Test.YtabdlldkkcjppaaDoorRow
import Derived.Test.YtabdlldkkcjppaaDoorShA
namespace Go.Proofs.YtabdlldkkcjppaaDoor
open Go.ChangeShapes Go.WideShapes Go.ChangeAt Go.RowKit Saw

def I64 (n : Int) : Prop := -9223372036854775808 ≤ n ∧ n ≤ 9223372036854775807
/-- What a species that came in is known to meet. -/
def SpOk (x : Sp) : Prop := x.name.length ≤ maxLen ∧ ∀ n ∈ x.nums, I64 n

theorem wf_i64b {n : Int} (h : (Lit.int .i64 n).wf = true) : I64 n := by
  have := bounds_i64 h
  exact ⟨by omega, by omega⟩

theorem fields13 : Tryd.prog.underlying 37 = some (.struct (Tryd.prog.fieldsOf 37)) := by kernel_rfl

theorem kspCells_len (x : Sp) : (kspCells x).length = 13 := rfl
theorem row_sp {H : Type} {enc : TypeId × Value → H} {w : World} {base : Nat} {spare : Nat → Bool} {held : Bool} {n : Nat} {r : List Value} {y : DataW H × List MemPlace} (h : DataW.trod enc Tryd.prog w base spare held n 37 r = some y) :
    ∃ x : Sp, r = kspCells x ∧ SpOk x := by
  obtain ⟨hlen, m, hf⟩ := row_fields Tryd.underlying37 (by kernel_rfl) (by kernel_rfl) h
  obtain ⟨c0, z0, e0, t0⟩ := hf 0 _ rfl
  obtain ⟨s, es, _, hs⟩ := DataW.trod_string Tryd.underlying9 t0
  obtain ⟨c1, z1, e1, t1⟩ := hf 1 _ rfl
  obtain ⟨n1, m1, _, w1⟩ := DataW.trod_int Tryd.underlying3 t1
  obtain ⟨c2, z2, e2, t2⟩ := hf 2 _ rfl
  obtain ⟨n2, m2, _, w2⟩ := DataW.trod_int Tryd.underlying3 t2
  obtain ⟨c3, z3, e3, t3⟩ := hf 3 _ rfl
  obtain ⟨n3, m3, _, w3⟩ := DataW.trod_int Tryd.underlying3 t3
  obtain ⟨c4, z4, e4, t4⟩ := hf 4 _ rfl
  obtain ⟨n4, m4, _, w4⟩ := DataW.trod_int Tryd.underlying3 t4
  obtain ⟨c5, z5, e5, t5⟩ := hf 5 _ rfl
  obtain ⟨n5, m5, _, w5⟩ := DataW.trod_int Tryd.underlying3 t5
  obtain ⟨c6, z6, e6, t6⟩ := hf 6 _ rfl
  obtain ⟨n6, m6, _, w6⟩ := DataW.trod_int Tryd.underlying3 t6
  obtain ⟨c7, z7, e7, t7⟩ := hf 7 _ rfl
  obtain ⟨n7, m7, _, w7⟩ := DataW.trod_int Tryd.underlying3 t7
  obtain ⟨c8, z8, e8, t8⟩ := hf 8 _ rfl
  obtain ⟨n8, m8, _, w8⟩ := DataW.trod_int Tryd.underlying3 t8
  obtain ⟨c9, z9, e9, t9⟩ := hf 9 _ rfl
  obtain ⟨n9, m9, _, w9⟩ := DataW.trod_int Tryd.underlying3 t9
  obtain ⟨c10, z10, e10, t10⟩ := hf 10 _ rfl
  obtain ⟨n10, m10, _, w10⟩ := DataW.trod_int Tryd.underlying3 t10
  obtain ⟨c11, z11, e11, t11⟩ := hf 11 _ rfl
  obtain ⟨n11, m11, _, w11⟩ := DataW.trod_int Tryd.underlying3 t11
  obtain ⟨c12, z12, e12, t12⟩ := hf 12 _ rfl
  obtain ⟨n12, m12, _, w12⟩ := DataW.trod_int Tryd.underlying3 t12
  injection es with es _
  injection m1 with m1 _
  injection m2 with m2 _
  injection m3 with m3 _
  injection m4 with m4 _
  injection m5 with m5 _
  injection m6 with m6 _
  injection m7 with m7 _
  injection m8 with m8 _
  injection m9 with m9 _
  injection m10 with m10 _
  injection m11 with m11 _
  injection m12 with m12 _
  subst es m1 m2 m3 m4 m5 m6 m7 m8 m9 m10 m11 m12
  refine ⟨⟨bts s, n1, n2, n3, n4, n5, n6, n7, n8, n9, n10, n11, n12⟩, ?_, by rw [← size_bts]; exact hs, ?_⟩
  · apply List.ext_getElem?
    intro j
    by_cases hj : j < 13
    · match j, hj with
      | 0, _ => rw [e0]; exact congrArg (fun t => some (Value.string t)) (str_bts s).symm
      | 1, _ => exact e1
      | 2, _ => exact e2
      | 3, _ => exact e3
      | 4, _ => exact e4
      | 5, _ => exact e5
      | 6, _ => exact e6
      | 7, _ => exact e7
      | 8, _ => exact e8
      | 9, _ => exact e9
      | 10, _ => exact e10
      | 11, _ => exact e11
      | 12, _ => exact e12
    · rw [List.getElem?_eq_none (by rw [hlen]; show 13 ≤ j; omega), List.getElem?_eq_none (by rw [kspCells_len]; omega)]
  · intro k hk
    simp only [Sp.nums, List.mem_cons, List.not_mem_nil, or_false] at hk
    rcases hk with rfl | rfl | rfl | rfl | rfl | rfl | rfl | rfl | rfl | rfl | rfl | rfl
    · exact wf_i64b w1
    · exact wf_i64b w2
    · exact wf_i64b w3
    · exact wf_i64b w4
    · exact wf_i64b w5
    · exact wf_i64b w6
    · exact wf_i64b w7
    · exact wf_i64b w8
    · exact wf_i64b w9
    · exact wf_i64b w10
    · exact wf_i64b w11
    · exact wf_i64b w12

set_option maxRecDepth 100000 in
theorem open_sp {H : Type} {enc : TypeId × Value → H} {W : World} {r : Reach} {b0 : Nat} {v : Value} {d : DataW H} {p : List MemPlace} (hv : Value.okWide Tryd.prog W r b0 37 v)
    (h : DataW.Trod enc Tryd.prog W 0 (fun _ => true) true 37 v d p) :
    ∃ x : Sp, v = .agg (kspCells x).toArray ∧ SpOk x := by
  obtain ⟨cs, rfl, _⟩ := okWide_struct Tryd.underlying37 hv
  obtain ⟨fuel, hf⟩ := h
  obtain ⟨x, hx, hok⟩ := row_sp (show DataW.trod enc Tryd.prog W 0 (fun _ => true) true fuel 37 cs.toList = some _ from hf)
  exact ⟨x, by rw [← hx], hok⟩


theorem row_stg {H : Type} {enc : TypeId × Value → H} {w : World} {base : Nat} {spare : Nat → Bool} {held : Bool} {n : Nat} {r : List Value} {y : DataW H × List MemPlace} (h : DataW.trod enc Tryd.prog w base spare held n 52 r = some y) :
    ∃ x : Stg, r = stgCells x := by
  obtain ⟨hlen, m, hf⟩ := row_fields Tryd.underlying52 (by kernel_rfl) (by kernel_rfl) h
  obtain ⟨c0, z0, e0, t0⟩ := hf 0 _ rfl
  obtain ⟨n0, m0, _, w0⟩ := DataW.trod_int Tryd.underlying3 t0
  obtain ⟨c1, z1, e1, t1⟩ := hf 1 _ rfl
  obtain ⟨n1, m1, _, w1⟩ := DataW.trod_int Tryd.underlying3 t1
  obtain ⟨c2, z2, e2, t2⟩ := hf 2 _ rfl
  obtain ⟨n2, m2, _, w2⟩ := DataW.trod_int Tryd.underlying3 t2
  obtain ⟨c3, z3, e3, t3⟩ := hf 3 _ rfl
  obtain ⟨n3, m3, _, w3⟩ := DataW.trod_int Tryd.underlying3 t3
  injection m0 with m0 _
  injection m1 with m1 _
  injection m2 with m2 _
  injection m3 with m3 _
  subst m0 m1 m2 m3
  refine ⟨⟨n0, n1, n2, n3⟩, ?_⟩
  apply List.ext_getElem?
  intro j
  by_cases hj : j < 4
  · match j, hj with
    | 0, _ => exact e0
    | 1, _ => exact e1
    | 2, _ => exact e2
    | 3, _ => exact e3
  · rw [List.getElem?_eq_none (by rw [hlen]; show 4 ≤ j; omega), List.getElem?_eq_none (by show 4 ≤ j; omega)]
theorem rows_stgs : ∀ (rows : List (List Value)), (∀ r ∈ rows, ∃ x : Stg, r = stgCells x) → ∃ l : List Stg, l.length = rows.length ∧ rows.flatten = stgsCells l
  | [], _ => ⟨[], rfl, rfl⟩
  | r :: rows, h => by
    obtain ⟨x, hx⟩ := h r (by simp)
    obtain ⟨l, h1, h2⟩ := rows_stgs rows (fun r' hr => h r' (by simp [hr]))
    exact ⟨x :: l, by simp [h1], by rw [List.flatten_cons, h2, hx, stgsCells_cons]⟩
theorem open_stgs {H : Type} {enc : TypeId × Value → H} {w : World} {spare : Nat → Bool} {held : Bool} {n : Nat} {v : Value} {y : DataW H × List MemPlace} (h : DataW.trod enc Tryd.prog w 0 spare held n 22 [v] = some y) :
    ∃ l : List Stg, RdSt w w.heap.size v l := by
  obtain ⟨rows, A, c, hv, hrows, hrd⟩ := open_rows Tryd.underlying22 (show Tryd.prog.cellsOf 52 = 4 by kernel_rfl) (by decide) h
  obtain ⟨l, h1, h2⟩ := rows_stgs rows (fun r hr => by
    obtain ⟨_, n', y', hy⟩ := hrows r hr
    exact row_stg hy)
  rw [h2, ← h1] at hrd
  exact ⟨l, hrd⟩
theorem row_sc {H : Type} {enc : TypeId × Value → H} {w : World} {spare : Nat → Bool} {held : Bool} {n : Nat} {r : List Value} {y : DataW H × List MemPlace} (h : DataW.trod enc Tryd.prog w 0 spare held n 24 r = some y) :
    ∃ (x : Sc) (sv : Value), r = scCells x sv ∧ x.name.length ≤ maxLen ∧ RdSt w w.heap.size sv x.stages ∧ I64 x.ramp := by
  obtain ⟨hlen, m, hf⟩ := row_fields Tryd.underlying24 (by kernel_rfl) (by kernel_rfl) h
  obtain ⟨c0, z0, e0, t0⟩ := hf 0 _ rfl
  obtain ⟨s0, es0, _, hs0⟩ := DataW.trod_string Tryd.underlying9 t0
  injection es0 with es0 _
  subst es0
  obtain ⟨c1, z1, e1, t1⟩ := hf 1 _ rfl
  obtain ⟨n1, m1, _, w1⟩ := DataW.trod_int Tryd.underlying3 t1
  injection m1 with m1 _
  subst m1
  obtain ⟨c2, z2, e2, t2⟩ := hf 2 _ rfl
  obtain ⟨l2, hl2⟩ := open_stgs t2
  refine ⟨⟨bts s0, n1, l2⟩, c2, ?_, by rw [← size_bts]; exact hs0, hl2, wf_i64b w1⟩
  apply List.ext_getElem?
  intro j
  by_cases hj : j < 3
  · match j, hj with
    | 0, _ => rw [e0]; exact congrArg (fun t => some (Value.string t)) (str_bts s0).symm
    | 1, _ => exact e1
    | 2, _ => exact e2
  · rw [List.getElem?_eq_none (by rw [hlen]; show 3 ≤ j; omega), List.getElem?_eq_none (by show 3 ≤ j; omega)]
theorem rows_scs (w : World) : ∀ (rows : List (List Value)), (∀ r ∈ rows, ∃ (x : Sc) (sv : Value), r = scCells x sv ∧ x.name.length ≤ maxLen ∧ RdSt w w.heap.size sv x.stages ∧ I64 x.ramp) →
    ∃ m : List (Sc × Value), m.length = rows.length ∧ rows.flatten = scsCells m ∧ (∀ y ∈ m, RdSt w w.heap.size y.2 y.1.stages) ∧ ∀ y ∈ m, y.1.name.length ≤ maxLen
  | [], _ => ⟨[], rfl, rfl, by simp, by simp⟩
  | r :: rows, h => by
    obtain ⟨x, sv, rfl, hn, h5, _⟩ := h r (by simp)
    obtain ⟨m, h1, h2, h3, h4⟩ := rows_scs w rows (fun r' hr => h r' (by simp [hr]))
    refine ⟨(x, sv) :: m, by simp [h1], by rw [List.flatten_cons, h2]; rfl, ?_, ?_⟩
    · intro y hy
      rcases List.mem_cons.1 hy with rfl | hy
      · exact h5
      · exact h3 y hy
    · intro y hy
      rcases List.mem_cons.1 hy with rfl | hy
      · exact hn
      · exact h4 y hy
set_option maxRecDepth 100000 in
theorem open_scs {H : Type} {enc : TypeId × Value → H} {W : World} {r : Reach} {b0 : Nat} {v : Value} {d : DataW H} {p : List MemPlace} (_hv : Value.okWide Tryd.prog W r b0 25 v)
    (h : DataW.Trod enc Tryd.prog W 0 (fun _ => true) true 25 v d p) :
    ∃ (l : List Sc) (A : Option Addr) (c : Nat), v = .slice A l.length c ∧ (RdSc W W.heap.size (.slice A l.length c) l ∧ ∀ x ∈ l, x.name.length ≤ maxLen) := by
  obtain ⟨a, len, cap, rfl⟩ := okWide_slice Tryd.underlying25 _hv
  obtain ⟨fuel, hf⟩ := h
  obtain ⟨rows, A, c, hv, hrows, hrd⟩ := open_rows (v := .slice a len cap) Tryd.underlying25 (show Tryd.prog.cellsOf 24 = 3 by kernel_rfl) (by decide) hf
  obtain ⟨m, h1, h2, h3, h4⟩ := rows_scs W rows (fun r hr => by obtain ⟨_, n', y', hy⟩ := hrows r hr; exact row_sc hy)
  rw [h2, ← h1] at hrd
  have hl : RdSc W W.heap.size (.slice a len cap) (m.map (·.1)) := ⟨m, rfl, hrd, h3⟩
  obtain ⟨A', c', he, _, _⟩ := hl.form
  rw [he] at hl ⊢
  refine ⟨m.map (·.1), A', c', rfl, hl, ?_⟩
  intro x hx
  obtain ⟨z, hz, rfl⟩ := List.mem_map.1 hx
  exact h4 z hz
/-- A schedule that is handed in by value. -/
def ScArg (w : World) (x : Sc) (A : Option Addr) (c : Nat) : Prop := RdSt w w.heap.size (.slice A x.stages.length c) x.stages ∧ x.name.length ≤ maxLen ∧ I64 x.ramp
set_option maxRecDepth 100000 in
theorem open_sc {H : Type} {enc : TypeId × Value → H} {W : World} {r : Reach} {b0 : Nat} {v : Value} {d : DataW H} {p : List MemPlace} (hv : Value.okWide Tryd.prog W r b0 24 v)
    (h : DataW.Trod enc Tryd.prog W 0 (fun _ => true) true 24 v d p) :
    ∃ (x : Sc) (A : Option Addr) (c : Nat), v = .agg #[.string (str x.name), .int .i64 x.ramp, .slice A x.stages.length c] ∧ ScArg W x A c := by
  obtain ⟨cs, rfl, _⟩ := okWide_struct Tryd.underlying24 hv
  obtain ⟨fuel, hf⟩ := h
  obtain ⟨x, sv, hx, hn, h1, h2⟩ := row_sc (show DataW.trod enc Tryd.prog W 0 (fun _ => true) true fuel 24 cs.toList = some _ from hf)
  obtain ⟨A1, c1, rfl, _, _⟩ := h1.form
  refine ⟨x, A1, c1, ?_, h1, hn, h2⟩
  congr 1
  exact Array.ext' hx

set_option maxRecDepth 100000 in
theorem open_int2 {H : Type} {enc : TypeId × Value → H} {W : World} {r : Reach} {b0 : Nat} {v : Value} {d : DataW H} {p : List MemPlace} (hv : Value.okWide Tryd.prog W r b0 49 v)
    (h : DataW.Trod enc Tryd.prog W 0 (fun _ => true) true 49 v d p) : ∃ a b : Int, v = .agg #[.int .i64 a, .int .i64 b] ∧ (I64 a ∧ I64 b) := by
  simp only [Value.okWide, Tryd.underlying49] at hv
  obtain ⟨cs, rfl, hsz, _⟩ := hv
  obtain ⟨fuel, hf⟩ := h
  obtain ⟨xs, m, _, hx, hl, hn, hel⟩ := DataW.trod_array Tryd.underlying49 (show DataW.trod enc Tryd.prog W 0 (fun _ => true) true fuel 49 cs.toList = some _ from hf)
  have c2 : Tryd.prog.cellsOf 49 = 2 := by kernel_rfl
  have c1 : Tryd.prog.cellsOf 3 = 1 := by kernel_rfl
  obtain ⟨l⟩ := cs
  rw [c2] at hl
  match l, hl, xs, hn, hel with
  | [u0, u1], _, [x0, x1], _, hel =>
    have h0 := hel 0 (by decide)
    have h1 := hel 1 (by decide)
    rw [c1] at h0 h1
    obtain ⟨n0, e0, _, w0⟩ := DataW.trod_int Tryd.underlying3 (show DataW.trod enc Tryd.prog W 0 (fun _ => true) true m 3 _ = some x0 from h0)
    obtain ⟨n1, e1, _, w1⟩ := DataW.trod_int Tryd.underlying3 (show DataW.trod enc Tryd.prog W 0 (fun _ => true) true m 3 _ = some x1 from h1)
    simp at e0 e1
    subst e0 e1
    exact ⟨n0, n1, rfl, wf_i64b w0, wf_i64b w1⟩
set_option maxRecDepth 100000 in
theorem open_int3 {H : Type} {enc : TypeId × Value → H} {W : World} {r : Reach} {b0 : Nat} {v : Value} {d : DataW H} {p : List MemPlace} (hv : Value.okWide Tryd.prog W r b0 35 v)
    (h : DataW.Trod enc Tryd.prog W 0 (fun _ => true) true 35 v d p) : ∃ a b c : Int, v = .agg #[.int .i64 a, .int .i64 b, .int .i64 c] ∧ (I64 a ∧ I64 b ∧ I64 c) := by
  simp only [Value.okWide, Tryd.underlying35] at hv
  obtain ⟨cs, rfl, hsz, _⟩ := hv
  obtain ⟨fuel, hf⟩ := h
  obtain ⟨xs, m, _, hx, hl, hn, hel⟩ := DataW.trod_array Tryd.underlying35 (show DataW.trod enc Tryd.prog W 0 (fun _ => true) true fuel 35 cs.toList = some _ from hf)
  have c3 : Tryd.prog.cellsOf 35 = 3 := by kernel_rfl
  have c1 : Tryd.prog.cellsOf 3 = 1 := by kernel_rfl
  obtain ⟨l⟩ := cs
  rw [c3] at hl
  match l, hl, xs, hn, hel with
  | [u0, u1, u2], _, [x0, x1, x2], _, hel =>
    have h0 := hel 0 (by decide)
    have h1 := hel 1 (by decide)
    have h2 := hel 2 (by decide)
    rw [c1] at h0 h1 h2
    obtain ⟨n0, e0, _, w0⟩ := DataW.trod_int Tryd.underlying3 (show DataW.trod enc Tryd.prog W 0 (fun _ => true) true m 3 _ = some x0 from h0)
    obtain ⟨n1, e1, _, w1⟩ := DataW.trod_int Tryd.underlying3 (show DataW.trod enc Tryd.prog W 0 (fun _ => true) true m 3 _ = some x1 from h1)
    obtain ⟨n2, e2, _, w2⟩ := DataW.trod_int Tryd.underlying3 (show DataW.trod enc Tryd.prog W 0 (fun _ => true) true m 3 _ = some x2 from h2)
    simp at e0 e1 e2
    subst e0 e1 e2
    exact ⟨n0, n1, n2, rfl, wf_i64b w0, wf_i64b w1, wf_i64b w2⟩

end Go.Proofs.YtabdlldkkcjppaaDoor
