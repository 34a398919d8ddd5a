/-
  The deferred closures of ParseExpr and Parse: what they do with a fault, and without one (package ruletext).
-/
import Derived.Test.YtkalkglllgebkaaDoorRxU
import Derived.Defers
import Derived.Recover
namespace Go.Proofs.YtkalkglllgebkaaDoor
open Go.RowKit Saw

theorem set1_heap {W : World} {g : Nat} {o : Value} {t : TypeId} (h : W.heap[g]? = some (.cells #[o] t (0, 0))) (v : Value) : (W.setCell ⟨g, 0, none⟩ v).heap[g]? = some (.cells #[v] t (0, 0)) := by
  rw [setCell_eq_setRow _ g 0 _ _ _ _ h, setRow_heap _ _ _ _ _ _ h]; rfl
theorem ta_fault (er off : Int) (w : World) : (Instr.typeAssert (.iface 62 (.agg #[.int .i64 er, .int .i64 off])) 20 62 true).run Tryd.prog w = .ok (.tuple #[.agg #[.int .i64 er, .int .i64 off], .bool true]) w := by kernel_rfl
theorem ta_none (w : World) : (Instr.typeAssert .nilIface 20 62 true).run Tryd.prog w = .ok (.tuple #[.agg #[.int .i64 0, .int .i64 0], .bool false]) w := by kernel_rfl

set_option maxRecDepth 100000 in
set_option maxHeartbeats 1000000 in
theorem catchX_panicking (g2 g3 g4 : Nat) (x : Ex) (sv : Value) (a b er off : Int) (older : List PanicEntry) (w : World)
    (h2 : w.heap[g2]? = some (.cells (exArr x sv) 24 (0, 0))) (h3 : w.heap[g3]? = some (.cells #[.int .i64 a] 28 (0, 0))) (h4 : w.heap[g4]? = some (.cells #[.int .i64 b] 3 (0, 0))) (hl2 : g2 < g3) (hl3 : g3 < g4) :
    CallsD Tryd.prog 35 #[.pointer (some ⟨g2, 0, none⟩), .pointer (some ⟨g3, 0, none⟩), .pointer (some ⟨g4, 0, none⟩)] (.panicking ({ v := .iface 62 (.agg #[.int .i64 er, .int .i64 off]), recovered := false } :: older)) w fun e u' w' =>
      e = .returned (.tuple #[]) ∧ u' = .panicking ({ v := .iface 62 (.agg #[.int .i64 er, .int .i64 off]), recovered := true } :: older) ∧
        w'.heap[g2]? = some (.cells (exArr Ex.zero (.slice none 0 0)) 24 (0, 0)) ∧ w'.heap[g3]? = some (.cells #[.int .i64 er] 28 (0, 0)) ∧ w'.heap[g4]? = some (.cells #[.int .i64 off] 3 (0, 0)) ∧ Below g2 w w' := by
  have hs2 := (Array.getElem?_eq_some_iff.1 h2).1
  have hs3 := (Array.getElem?_eq_some_iff.1 h3).1
  have hs4 := (Array.getElem?_eq_some_iff.1 h4).1
  refine callsD_of_wpS Tryd.func35 rfl fun c₀ cs hu => ?_
  apply wpS_seq
  apply wpS_region
  simp [wpOpsS, go_sem, recoverD, hu, Tryd.ntmps35, Exit.thenS, ta_fault]
  have q2 := hpA h2 (.cells #[.int .i64 er, .int .i64 off] 62)
  have q3 := hpA h3 (.cells #[.int .i64 er, .int .i64 off] 62)
  have q4 := hpA h4 (.cells #[.int .i64 er, .int .i64 off] 62)
  have qf := heap_alloc_last w (.cells #[.int .i64 er, .int .i64 off] 62)
  have qb := (Below.refl g2 w).alloc (Nat.le_of_lt hs2) (.cells #[.int .i64 er, .int .i64 off] 62)
  obtain ⟨N, hN⟩ : ∃ N, w.heap.size = N := ⟨_, rfl⟩
  obtain ⟨W1, hW1⟩ : ∃ W, w.alloc (.cells #[.int .i64 er, .int .i64 off] 62) = W := ⟨_, rfl⟩
  rw [hW1] at q2 q3 q4 qf qb ⊢
  rw [hN] at qf hs2 hs3 hs4 ⊢
  have Q2 := Lib.hid q2
  have Q3 := Lib.hid q3
  have Q4 := Lib.hid q4
  have QB := Lib.hid qb
  obtain ⟨a0, a1⟩ : W1.cell? ⟨N, 0, none⟩ = some (.int .i64 er) ∧ W1.cell? ⟨N, 1, none⟩ = some (.int .i64 off) := ⟨cell_of_box qf rfl, cell_of_box qf rfl⟩
  obtain ⟨b0, b1, b2, b3⟩ := rangeAt4 (show W1.rangeAt g2 0 (exCells x sv) from rangeAt_block q2)
  have c0 := cell_of_box (j := 0) q3 rfl
  have d0 := cell_of_box (j := 0) q4 rfl
  obtain ⟨z0, z1, z2, z3⟩ : W1.frozen? ⟨g2, 0, none⟩ = false ∧ W1.frozen? ⟨g2, 1, none⟩ = false ∧ W1.frozen? ⟨g2, 2, none⟩ = false ∧ W1.frozen? ⟨g2, 3, none⟩ = false := by refine ⟨?_, ?_, ?_, ?_⟩ <;> simp [World.frozen?, q2]
  have y0 : W1.frozen? ⟨g3, 0, none⟩ = false := by simp [World.frozen?, q3]
  have x0 : W1.frozen? ⟨g4, 0, none⟩ = false := by simp [World.frozen?, q4]
  clear h2 h3 h4 q2 q3 q4 qf qb hW1 hN
  refine wpS_of_wp ?_
  simp only [Array.replicate_succ, Array.replicate_zero, List.push_toArray, List.append_toArray, List.nil_append, List.cons_append, List.setIfInBounds_toArray, List.set_cons_zero, List.set_cons_succ]
  go_wp2_with fail
  go_region
  go_wp2_with fail
  refine ⟨rfl, _, rfl, .tuple #[], by simp [results, Tryd.results35], rfl, rfl, ?_⟩
  rw [set4_row Q2.out rfl]
  have r2 : (W1.setRow g2 (exArr Ex.zero (.slice none 0 0))).heap[g2]? = some (.cells (exArr Ex.zero (.slice none 0 0)) 24 (0, 0)) := setRow_heap _ _ _ _ _ _ Q2.out
  have r3 : (W1.setRow g2 (exArr Ex.zero (.slice none 0 0))).heap[g3]? = some (.cells #[.int .i64 a] 28 (0, 0)) := (setRow_other _ _ _ _ (by omega)).trans Q3.out
  have r4 : (W1.setRow g2 (exArr Ex.zero (.slice none 0 0))).heap[g4]? = some (.cells #[.int .i64 b] 3 (0, 0)) := (setRow_other _ _ _ _ (by omega)).trans Q4.out
  refine ⟨hpS (hpS r2 (by omega) _) (by omega) _, hpS (set1_heap r3 _) (by omega) _, set1_heap (hpS r4 (by omega) _) _, ?_⟩
  exact (((QB.out.setRow (Nat.le_refl _) _).setCell (p := ⟨g3, 0, none⟩) (by show g2 ≤ g3; omega) _).setCell (p := ⟨g4, 0, none⟩) (by show g2 ≤ g4; omega) _).drew

set_option maxRecDepth 100000 in
set_option maxHeartbeats 1000000 in
theorem catchX_idle (g2 g3 g4 : Nat) (w : World) :
    CallsD Tryd.prog 35 #[.pointer (some ⟨g2, 0, none⟩), .pointer (some ⟨g3, 0, none⟩), .pointer (some ⟨g4, 0, none⟩)] .returning w fun e u' w' => e = .returned (.tuple #[]) ∧ u' = .returning ∧ Below w.heap.size w w' := by
  refine callsD_of_wpS Tryd.func35 rfl fun c₀ cs hu => ?_
  apply wpS_seq
  apply wpS_region
  simp [wpOpsS, go_sem, recoverD, hu, Tryd.ntmps35, Exit.thenS, ta_none]
  refine wpS_of_wp ?_
  simp only [Array.replicate_succ, Array.replicate_zero, List.push_toArray, List.append_toArray, List.nil_append, List.cons_append, List.setIfInBounds_toArray, List.set_cons_zero, List.set_cons_succ]
  go_wp2_with fail
  refine ⟨rfl, .returning, ?_, .tuple #[], by simp [results, Tryd.results35], rfl, rfl, ?_⟩
  · cases c₀
    simp_all
  · exact (Below.refl _ _).alloc (Nat.le_refl _) _

end Go.Proofs.YtkalkglllgebkaaDoor
