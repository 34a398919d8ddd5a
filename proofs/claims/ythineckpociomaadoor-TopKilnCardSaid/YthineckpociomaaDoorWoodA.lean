/-
  Species in memory; the contracts of wood.numbers, wood.inRange, wood.species.
-/
import Derived.Test.YthineckpociomaaDoorIdent
import Derived.Test.YthineckpociomaaDoorRd
namespace Go.Proofs.YthineckpociomaaDoor
open Go.RowKit Saw

def spCells (x : Sp) : List Value := [.string (str x.name), .int .i64 x.green, .int .i64 x.fast, .int .i64 x.slow, .int .i64 x.safe, .int .i64 x.grad, .int .i64 x.crack, .int .i64 x.temp, .int .i64 x.depress, .int .i64 x.density, .int .i64 x.stiff, .int .i64 x.knots, .int .i64 x.shrink]
def spsCells (l : List Sp) : List Value := l.flatMap spCells
theorem spCells_len (x : Sp) : (spCells x).length = 13 := rfl
theorem spsCells_cons (x : Sp) (l : List Sp) : spsCells (x :: l) = spCells x ++ spsCells l := rfl
theorem spsCells_length (l : List Sp) : (spsCells l).length = l.length * 13 := by
  induction l with
  | nil => rfl
  | cons x r ih => rw [spsCells_cons, List.length_append, ih, spCells_len, List.length_cons]; omega
theorem spsCells_snoc (l : List Sp) (x : Sp) : spsCells (l ++ [x]) = spsCells l ++ spCells x := by simp [spsCells]

theorem sps_at (l : List Sp) (i : Nat) (x : Sp) (h : l[i]? = some x) (j : Nat) (hj : j < 13) : (spsCells l)[i * 13 + j]? = (spCells x)[j]? := by
  induction l generalizing i with
  | nil => simp at h
  | cons y r ih =>
    rw [spsCells_cons]
    cases i with
    | zero =>
      simp only [List.getElem?_cons_zero, Option.some.injEq] at h
      subst h
      rw [List.getElem?_append_left (by rw [spCells_len]; omega), Nat.zero_mul, Nat.zero_add]
    | succ k =>
      simp only [List.getElem?_cons_succ] at h
      rw [List.getElem?_append_right (by rw [spCells_len]; omega), spCells_len, ← ih k h]
      congr 1
      omega

/-- The slice value v reads as the species l. -/
def RdSp (w : World) (v : Value) (l : List Sp) : Prop := Rd w w.heap.size 13 v l.length (spsCells l)
theorem RdSp.form {w : World} {v : Value} {l : List Sp} (h : RdSp w v l) : ∃ A c, v = .slice A l.length c ∧ l.length ≤ c ∧ l.length ≤ maxLen := by
  obtain ⟨_, h2, A, c, rfl, hc, _⟩ := h
  exact ⟨A, c, rfl, hc, h2⟩
theorem rdsp_at {w : World} {B : Nat} {A : Option Addr} {n c : Nat} {l : List Sp} (h : Rd w B 13 (.slice A n c) l.length (spsCells l)) {i : Nat} {x : Sp} (hx : l[i]? = some x) :
    ∃ b off, A = some ⟨b, off, none⟩ ∧ b < B ∧ w.cell? ⟨b, off + i * 13, none⟩ = some (.string (str x.name)) ∧ w.cell? ⟨b, off + i * 13 + 1, none⟩ = some (.int .i64 x.green) ∧ w.cell? ⟨b, off + i * 13 + 2, none⟩ = some (.int .i64 x.fast) ∧ w.cell? ⟨b, off + i * 13 + 3, none⟩ = some (.int .i64 x.slow) ∧ w.cell? ⟨b, off + i * 13 + 4, none⟩ = some (.int .i64 x.safe) ∧ w.cell? ⟨b, off + i * 13 + 5, none⟩ = some (.int .i64 x.grad) ∧ w.cell? ⟨b, off + i * 13 + 6, none⟩ = some (.int .i64 x.crack) ∧ w.cell? ⟨b, off + i * 13 + 7, none⟩ = some (.int .i64 x.temp) ∧ w.cell? ⟨b, off + i * 13 + 8, none⟩ = some (.int .i64 x.depress) ∧ w.cell? ⟨b, off + i * 13 + 9, none⟩ = some (.int .i64 x.density) ∧ w.cell? ⟨b, off + i * 13 + 10, none⟩ = some (.int .i64 x.stiff) ∧ w.cell? ⟨b, off + i * 13 + 11, none⟩ = some (.int .i64 x.knots) ∧ w.cell? ⟨b, off + i * 13 + 12, none⟩ = some (.int .i64 x.shrink) := by
  obtain ⟨_, _, A', c', he, _, h3⟩ := h
  injection he with h1 h2 h4
  subst h1
  have hi : i < l.length := (List.getElem?_eq_some_iff.1 hx).1
  obtain ⟨b, off, rfl, hb, hcell⟩ := h3 (by omega)
  have hc : ∀ j, j < 13 → ∀ u, (spCells x)[j]? = some u → w.cell? ⟨b, off + (i * 13 + j), none⟩ = some u := fun j hj u hu => hcell _ _ ((sps_at l i x hx j hj).trans hu)
  refine ⟨b, off, rfl, hb, hc 0 (by omega) _ rfl, hc 1 (by omega) _ rfl, hc 2 (by omega) _ rfl, hc 3 (by omega) _ rfl, hc 4 (by omega) _ rfl, hc 5 (by omega) _ rfl, hc 6 (by omega) _ rfl, hc 7 (by omega) _ rfl, hc 8 (by omega) _ rfl, hc 9 (by omega) _ rfl, hc 10 (by omega) _ rfl, hc 11 (by omega) _ rfl, hc 12 (by omega) _ rfl⟩

set_option maxRecDepth 100000 in
set_option maxHeartbeats 400000 in
theorem numbers_any (x : Sp) (w : World) :
    Calls Tryd.prog 49 #[.agg #[.string (str x.name), .int .i64 x.green, .int .i64 x.fast, .int .i64 x.slow, .int .i64 x.safe, .int .i64 x.grad, .int .i64 x.crack, .int .i64 x.temp, .int .i64 x.depress, .int .i64 x.density, .int .i64 x.stiff, .int .i64 x.knots, .int .i64 x.shrink]] w fun e w' => e = .returned (.agg #[.int .i64 x.green, .int .i64 x.fast, .int .i64 x.slow, .int .i64 x.safe, .int .i64 x.grad, .int .i64 x.crack, .int .i64 x.temp, .int .i64 x.depress, .int .i64 x.density, .int .i64 x.stiff, .int .i64 x.knots, .int .i64 x.shrink]) ∧ Below w.heap.size w w' := by
  go_enter Tryd.func49, Tryd.ntmps49
  go_wp2_with fail
  refine bodyPost_ret (v := .agg #[.int .i64 x.green, .int .i64 x.fast, .int .i64 x.slow, .int .i64 x.safe, .int .i64 x.grad, .int .i64 x.crack, .int .i64 x.temp, .int .i64 x.depress, .int .i64 x.density, .int .i64 x.stiff, .int .i64 x.knots, .int .i64 x.shrink]) (by simp [results, Tryd.results49, go_sem]) rfl ⟨rfl, ?_⟩
  exact ((Below.refl _ _).alloc (Nat.le_refl _) _).alloc (by simp) _

end Go.Proofs.YthineckpociomaaDoor
