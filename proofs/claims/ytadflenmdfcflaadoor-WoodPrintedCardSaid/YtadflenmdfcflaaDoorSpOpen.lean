/-
  Arguments that are species, or lists of them, opened.
-/
import Derived.Test.YtadflenmdfcflaaDoorRow
import Derived.Test.YtadflenmdfcflaaDoorSpM
namespace Go.Proofs.YtadflenmdfcflaaDoor
open Go.ChangeShapes Go.WideShapes Go.ChangeAt Go.RowKit Saw

def I64 (n : Int) : Prop := -9223372036854775808 ≤ n ∧ n ≤ 9223372036854775807
/-- What a species that came in is known to meet. -/
def SpOk (x : Sp) : Prop := x.name.length ≤ maxLen ∧ ∀ n ∈ x.nums, I64 n

theorem wf_i64b {n : Int} (h : (Lit.int .i64 n).wf = true) : I64 n := by
  have := bounds_i64 h
  exact ⟨by omega, by omega⟩

theorem fields13 : Tryd.prog.underlying 26 = some (.struct (Tryd.prog.fieldsOf 26)) := by kernel_rfl

theorem row_sp {H : Type} {enc : TypeId × Value → H} {w : World} {base : Nat} {spare : Nat → Bool} {held : Bool} {n : Nat} {r : List Value} {y : DataW H × List MemPlace} (h : DataW.trod enc Tryd.prog w base spare held n 26 r = some y) :
    ∃ x : Sp, r = spCells x ∧ SpOk x := by
  obtain ⟨hlen, m, hf⟩ := row_fields Tryd.underlying26 (by kernel_rfl) (by kernel_rfl) h
  obtain ⟨c0, z0, e0, t0⟩ := hf 0 _ rfl
  obtain ⟨s, es, _, hs⟩ := DataW.trod_string Tryd.underlying9 t0
  obtain ⟨c1, z1, e1, t1⟩ := hf 1 _ rfl
  obtain ⟨n1, m1, _, w1⟩ := DataW.trod_int Tryd.underlying3 t1
  obtain ⟨c2, z2, e2, t2⟩ := hf 2 _ rfl
  obtain ⟨n2, m2, _, w2⟩ := DataW.trod_int Tryd.underlying3 t2
  obtain ⟨c3, z3, e3, t3⟩ := hf 3 _ rfl
  obtain ⟨n3, m3, _, w3⟩ := DataW.trod_int Tryd.underlying3 t3
  obtain ⟨c4, z4, e4, t4⟩ := hf 4 _ rfl
  obtain ⟨n4, m4, _, w4⟩ := DataW.trod_int Tryd.underlying3 t4
  obtain ⟨c5, z5, e5, t5⟩ := hf 5 _ rfl
  obtain ⟨n5, m5, _, w5⟩ := DataW.trod_int Tryd.underlying3 t5
  obtain ⟨c6, z6, e6, t6⟩ := hf 6 _ rfl
  obtain ⟨n6, m6, _, w6⟩ := DataW.trod_int Tryd.underlying3 t6
  obtain ⟨c7, z7, e7, t7⟩ := hf 7 _ rfl
  obtain ⟨n7, m7, _, w7⟩ := DataW.trod_int Tryd.underlying3 t7
  obtain ⟨c8, z8, e8, t8⟩ := hf 8 _ rfl
  obtain ⟨n8, m8, _, w8⟩ := DataW.trod_int Tryd.underlying3 t8
  obtain ⟨c9, z9, e9, t9⟩ := hf 9 _ rfl
  obtain ⟨n9, m9, _, w9⟩ := DataW.trod_int Tryd.underlying3 t9
  obtain ⟨c10, z10, e10, t10⟩ := hf 10 _ rfl
  obtain ⟨n10, m10, _, w10⟩ := DataW.trod_int Tryd.underlying3 t10
  obtain ⟨c11, z11, e11, t11⟩ := hf 11 _ rfl
  obtain ⟨n11, m11, _, w11⟩ := DataW.trod_int Tryd.underlying3 t11
  obtain ⟨c12, z12, e12, t12⟩ := hf 12 _ rfl
  obtain ⟨n12, m12, _, w12⟩ := DataW.trod_int Tryd.underlying3 t12
  injection es with es _
  injection m1 with m1 _
  injection m2 with m2 _
  injection m3 with m3 _
  injection m4 with m4 _
  injection m5 with m5 _
  injection m6 with m6 _
  injection m7 with m7 _
  injection m8 with m8 _
  injection m9 with m9 _
  injection m10 with m10 _
  injection m11 with m11 _
  injection m12 with m12 _
  subst es m1 m2 m3 m4 m5 m6 m7 m8 m9 m10 m11 m12
  refine ⟨⟨bts s, n1, n2, n3, n4, n5, n6, n7, n8, n9, n10, n11, n12⟩, ?_, by rw [← size_bts]; exact hs, ?_⟩
  · apply List.ext_getElem?
    intro j
    by_cases hj : j < 13
    · match j, hj with
      | 0, _ => rw [e0]; exact congrArg (fun t => some (Value.string t)) (str_bts s).symm
      | 1, _ => exact e1
      | 2, _ => exact e2
      | 3, _ => exact e3
      | 4, _ => exact e4
      | 5, _ => exact e5
      | 6, _ => exact e6
      | 7, _ => exact e7
      | 8, _ => exact e8
      | 9, _ => exact e9
      | 10, _ => exact e10
      | 11, _ => exact e11
      | 12, _ => exact e12
    · rw [List.getElem?_eq_none (by rw [hlen]; show 13 ≤ j; omega), List.getElem?_eq_none (by rw [spCells_len]; omega)]
  · intro k hk
    simp only [Sp.nums, List.mem_cons, List.not_mem_nil, or_false] at hk
    rcases hk with rfl | rfl | rfl | rfl | rfl | rfl | rfl | rfl | rfl | rfl | rfl | rfl
    · exact wf_i64b w1
    · exact wf_i64b w2
    · exact wf_i64b w3
    · exact wf_i64b w4
    · exact wf_i64b w5
    · exact wf_i64b w6
    · exact wf_i64b w7
    · exact wf_i64b w8
    · exact wf_i64b w9
    · exact wf_i64b w10
    · exact wf_i64b w11
    · exact wf_i64b w12

theorem rows_sps : ∀ (rows : List (List Value)), (∀ r ∈ rows, ∃ x : Sp, r = spCells x ∧ SpOk x) → ∃ l : List Sp, l.length = rows.length ∧ rows.flatten = spsCells l ∧ ∀ x ∈ l, SpOk x
  | [], _ => ⟨[], rfl, rfl, by simp⟩
  | r :: rows, h => by
    obtain ⟨x, hx, hok⟩ := h r (by simp)
    obtain ⟨l, h1, h2, h3⟩ := rows_sps rows (fun r' hr => h r' (by simp [hr]))
    refine ⟨x :: l, by simp [h1], by rw [List.flatten_cons, h2, hx, spsCells_cons], ?_⟩
    intro y hy
    rcases List.mem_cons.1 hy with rfl | hy
    · exact hok
    · exact h3 y hy

set_option maxRecDepth 100000 in
theorem open_sps {H : Type} {enc : TypeId × Value → H} {W : World} {r : Reach} {b0 : Nat} {v : Value} {d : DataW H} {p : List MemPlace} (_hv : Value.okWide Tryd.prog W r b0 22 v)
    (h : DataW.Trod enc Tryd.prog W 0 (fun _ => true) true 22 v d p) :
    ∃ (A : Option Addr) (n c : Nat) (l : List Sp), v = .slice A n c ∧ (RdSp W (.slice A n c) l ∧ ∀ x ∈ l, SpOk x) := by
  obtain ⟨a, len, cap, rfl⟩ := okWide_slice Tryd.underlying22 _hv
  obtain ⟨fuel, hf⟩ := h
  obtain ⟨rows, A, c, hv, hrows, hrd⟩ := open_rows Tryd.underlying22 (show Tryd.prog.cellsOf 26 = 13 by kernel_rfl) (by decide) hf
  obtain ⟨l, h1, h2, h3⟩ := rows_sps rows (fun r hr => by obtain ⟨_, n, y, hy⟩ := hrows r hr; exact row_sp hy)
  refine ⟨a, len, cap, l, rfl, ?_, h3⟩
  rw [h2, ← h1] at hrd
  exact hrd

set_option maxRecDepth 100000 in
theorem open_sp {H : Type} {enc : TypeId × Value → H} {W : World} {r : Reach} {b0 : Nat} {v : Value} {d : DataW H} {p : List MemPlace} (hv : Value.okWide Tryd.prog W r b0 26 v)
    (h : DataW.Trod enc Tryd.prog W 0 (fun _ => true) true 26 v d p) :
    ∃ x : Sp, v = .agg (spCells x).toArray ∧ SpOk x := by
  obtain ⟨cs, rfl, _⟩ := okWide_struct Tryd.underlying26 hv
  obtain ⟨fuel, hf⟩ := h
  obtain ⟨x, hx, hok⟩ := row_sp (show DataW.trod enc Tryd.prog W 0 (fun _ => true) true fuel 26 cs.toList = some _ from hf)
  exact ⟨x, by rw [← hx], hok⟩

end Go.Proofs.YtadflenmdfcflaaDoor
