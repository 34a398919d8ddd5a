/-
  Slices of lexemes that are read; '==' and '!=' of two lexemes.
-/
import Derived.Test.YtkalkglllgebkaaDoorLexE
import Derived.Test.YtkalkglllgebkaaDoorRd
namespace Go.Proofs.YtkalkglllgebkaaDoor
open Go.RowKit Saw

/-- The slice value v reads as the lexemes l. -/
def RdLx (w : World) (v : Value) (l : List Lx) : Prop := Rd w w.heap.size 4 v l.length (lxsCells l)

theorem lxs_at (l : List Lx) (i : Nat) (x : Lx) (h : l[i]? = some x) : (lxsCells l)[i * 4]? = some (.int .i64 x.kind) ∧ (lxsCells l)[i * 4 + 1]? = some (.string (str x.text)) ∧ (lxsCells l)[i * 4 + 2]? = some (.int .i64 x.num) ∧ (lxsCells l)[i * 4 + 3]? = some (.int .i64 x.off) := by
  induction l generalizing i with
  | nil => simp at h
  | cons y r ih =>
    have e : lxsCells (y :: r) = .int .i64 y.kind :: .string (str y.text) :: .int .i64 y.num :: .int .i64 y.off :: lxsCells r := rfl
    cases i with
    | zero =>
      simp only [List.getElem?_cons_zero, Option.some.injEq] at h
      subst h
      rw [e]
      simp
    | succ j =>
      simp only [List.getElem?_cons_succ] at h
      have := ih j h
      rw [e, show (j + 1) * 4 = j * 4 + 4 by omega]
      simpa using this

theorem RdLx.form {w : World} {v : Value} {l : List Lx} (h : RdLx w v l) : ∃ A c, v = .slice A l.length c ∧ l.length ≤ c ∧ l.length ≤ maxLen := by
  obtain ⟨_, h2, A, c, rfl, hc, _⟩ := h
  exact ⟨A, c, rfl, hc, h2⟩
theorem RdLx.at_ {w : World} {A : Option Addr} {n c : Nat} {l : List Lx} (h : RdLx w (.slice A n c) l) {i : Nat} {x : Lx} (hx : l[i]? = some x) :
    ∃ b off, A = some ⟨b, off, none⟩ ∧ b < w.heap.size ∧ w.cell? ⟨b, off + i * 4, none⟩ = some (.int .i64 x.kind) ∧ w.cell? ⟨b, off + i * 4 + 1, none⟩ = some (.string (str x.text)) ∧
      w.cell? ⟨b, off + i * 4 + 2, none⟩ = some (.int .i64 x.num) ∧ w.cell? ⟨b, off + i * 4 + 3, none⟩ = some (.int .i64 x.off) := by
  obtain ⟨_, _, A', c', he, _, h3⟩ := h
  injection he with h1 h2 h4
  subst h1
  have hi : i < l.length := (List.getElem?_eq_some_iff.1 hx).1
  obtain ⟨b, off, rfl, hb, hcell⟩ := h3 (by omega)
  obtain ⟨k0, k1, k2, k3⟩ := lxs_at l i x hx
  exact ⟨b, off, rfl, hb, hcell _ _ k0, hcell _ _ k1, hcell _ _ k2, hcell _ _ k3⟩

theorem fields_lx : Tryd.prog.underlying 49 = some (.struct (Tryd.prog.fieldsOf 49)) := by kernel_rfl
theorem stood_lx : Tryd.prog.stoodInHeld 49 = false := by kernel_rfl
theorem guard_lx : Tryd.prog.eqGuardType Tryd.prog.depth 49 = false := by kernel_rfl
theorem take_more {α : Type} {l l' : List α} {k : Nat} {x : α} (h : l.take k = l'.take k) (h1 : l[k]? = some x) (h2 : l'[k]? = some x) : l.take (k + 1) = l'.take (k + 1) := by
  rw [List.take_add_one, List.take_add_one, h, h1, h2]
theorem str_inj {a b : List UInt8} (h : str a = str b) : a = b := by rw [← bts_str a, h, bts_str]
theorem lx_eqB (x y : Lx) : decide (x = y) = ((x.kind == y.kind) && ((x.text == y.text) && ((x.num == y.num) && (x.off == y.off)))) := by
  rw [Bool.eq_iff_iff]
  cases x; cases y
  simp
theorem eqIn_lx (x y : Lx) (W : World) : (Op.equalIn 10000 49 (.agg #[.int .i64 x.kind, .string (str x.text), .int .i64 x.num, .int .i64 x.off]) (.agg #[.int .i64 y.kind, .string (str y.text), .int .i64 y.num, .int .i64 y.off])).run Tryd.prog W = .ok (decide (x = y)) W := by
  have u3 := Tryd.underlying3
  have a3 := Tryd.isAgg3
  have z3 := Tryd.sizeOf3
  have u9 := Tryd.underlying9
  have a9 := Tryd.isAgg9
  have z9 := Tryd.sizeOf9
  rw [show (10000 : Nat) = 9999 + 1 from rfl, run_equalIn_agg W 9999 49 _ _ fields_lx stood_lx, lx_eqB]
  simp only [Program.fieldsOf, Tryd.underlying49]
  go_simp
  simp only [toList_bts, bts_str]
  by_cases h1 : x.kind = y.kind <;> by_cases h2 : x.text = y.text <;> by_cases h3 : x.num = y.num <;> by_cases h4 : x.off = y.off <;> simp [h1, h2, h3, h4]
theorem eql_lx (x y : Lx) (W : World) : (binOp .eql 49 (.agg #[.int .i64 x.kind, .string (str x.text), .int .i64 x.num, .int .i64 x.off]) (.agg #[.int .i64 y.kind, .string (str y.text), .int .i64 y.num, .int .i64 y.off])).run Tryd.prog W = .ok (.bool (decide (x = y))) W := by
  rw [run_eql_struct, eqIn_lx]
  rfl
theorem neq_lx (x y : Lx) (W : World) : (binOp .neq 49 (.agg #[.int .i64 x.kind, .string (str x.text), .int .i64 x.num, .int .i64 x.off]) (.agg #[.int .i64 y.kind, .string (str y.text), .int .i64 y.num, .int .i64 y.off])).run Tryd.prog W = .ok (.bool (!decide (x = y))) W := by
  rw [run_neq_struct, eqIn_lx]
  rfl

end Go.Proofs.YtkalkglllgebkaaDoor
