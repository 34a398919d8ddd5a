/-
  Rules in memory; the deferred closure of ruletext.Parse.
-/
import Derived.Test.YtkalkglllgebkaaDoorRyC
namespace Saw
theorem rule_in {xs : List Lx} (he : LxEnds xs) {k k' : Nat} (hk : k < xs.length) {r : Rl} (h : ruleE xs k = .inl (r, k')) : k < k' ∧ k' < xs.length := by
  unfold ruleE at h
  by_cases h1 : isWd xs k gradeW = false
  · rw [if_pos h1] at h; cases h
  · rw [if_neg h1] at h
    have hk1 := isWd_in he hk (by simpa using h1)
    by_cases h2 : (lxAt xs (k + 1)).kind = 2 ∧ 9 < (lxAt xs (k + 1)).num
    · rw [if_pos h2] at h; cases h
    · rw [if_neg h2] at h
      by_cases h3 : (lxAt xs (k + 1)).kind = 2
      · rw [if_neg (by rw [Classical.not_not]; exact h3)] at h
        have hk2 : k + 2 < xs.length := lxEnds_next he hk1 (by rw [h3]; decide)
        by_cases h4 : isWd xs (k + 2) whenW = false
        · rw [if_pos h4] at h; cases h
        · rw [if_neg h4] at h
          have hk3 : k + 3 < xs.length := isWd_in he hk2 (by simpa using h4)
          rcases whole_cases he hk3 with ⟨x, j, _, _, hw, h5, h6⟩ | ⟨x, j, _, _, hw, _, _⟩ | ⟨er, off, _, hw⟩
          · rw [hw] at h
            simp only at h
            by_cases h7 : isMk xs j [59] = false
            · rw [if_pos h7] at h; cases h
            · rw [if_neg h7] at h
              injection h with h
              injection h with h8 h9
              subst h9
              have := isMk_in he h6 (by simpa using h7)
              omega
          · rw [hw] at h; cases h
          · rw [hw] at h; cases h
      · rw [if_pos h3] at h; cases h
end Saw
namespace Go.Proofs.YtkalkglllgebkaaDoor
open Go.RowKit Saw Go.Sort

def rlCells (x : Rl) (sv : Value) : List Value := [.int .i64 x.grade, .int .i64 x.when_.op, .int .i64 x.when_.n, .string (str x.when_.name), sv]
def rlsCells (m : List (Rl × Value)) : List Value := m.flatMap fun y => rlCells y.1 y.2
theorem rlCells_len (x : Rl) (sv : Value) : (rlCells x sv).length = 5 := rfl
theorem rlsCells_length (m : List (Rl × Value)) : (rlsCells m).length = m.length * 5 := by
  induction m with
  | nil => rfl
  | cons y r ih => rw [rlsCells, List.flatMap_cons, List.length_append, ← rlsCells, ih, rlCells_len, List.length_cons]; omega
theorem rlsCells_snoc (m : List (Rl × Value)) (y : Rl × Value) : rlsCells (m ++ [y]) = rlsCells m ++ rlCells y.1 y.2 := by simp [rlsCells]
theorem rls_at : ∀ (m : List (Rl × Value)) (i : Nat) (y : Rl × Value), m[i]? = some y → ∀ j, j < 5 → (rlsCells m)[i * 5 + j]? = (rlCells y.1 y.2)[j]?
  | [], i, y, h, _, _ => by simp at h
  | z :: r, 0, y, h, j, hj => by
    simp only [List.getElem?_cons_zero, Option.some.injEq] at h
    subst h
    rw [rlsCells, List.flatMap_cons, List.getElem?_append_left (by rw [rlCells_len]; omega), Nat.zero_mul, Nat.zero_add]
  | z :: r, i + 1, y, h, j, hj => by
    simp only [List.getElem?_cons_succ] at h
    rw [rlsCells, List.flatMap_cons, List.getElem?_append_right (by rw [rlCells_len]; omega), rlCells_len, ← rls_at r i y h j hj, rlsCells]
    congr 1
    omega
/-- The slice value v reads as the rules l. -/
def RdRl (w : World) (v : Value) (l : List Rl) : Prop := ∃ m : List (Rl × Value), m.map (·.1) = l ∧ Rd w w.heap.size 5 v m.length (rlsCells m) ∧ ∀ y ∈ m, RdFo w (Iv 0 w.heap.size) y.2 y.1.when_.kids
theorem RdRl.next {w w' : World} {v : Value} {l : List Rl} (h : RdRl w v l) (hb : Below w.heap.size w w') : RdRl w' v l := by
  obtain ⟨m, h1, h2, h3⟩ := h
  exact ⟨m, h1, h2.next hb, fun y hy => (h3 y hy).next hb⟩
theorem RdRl.form {w : World} {v : Value} {l : List Rl} (h : RdRl w v l) : ∃ A c, v = .slice A l.length c ∧ l.length ≤ c ∧ l.length ≤ maxLen := by
  obtain ⟨m, rfl, ⟨_, h2, A, c, rfl, hc, _⟩, _⟩ := h
  rw [List.length_map]
  exact ⟨A, c, rfl, hc, h2⟩
theorem RdRl.nil (w : World) : RdRl w (.slice none 0 0) [] := ⟨[], rfl, ⟨rfl, by unfold maxLen; decide, none, 0, rfl, Nat.le_refl _, fun h => absurd h (by decide)⟩, fun _ h => by cases h⟩
theorem RdRl.at_ {w : World} {A : Option Addr} {n c : Nat} {l : List Rl} (h : RdRl w (.slice A n c) l) {i : Nat} {x : Rl} (hx : l[i]? = some x) :
    ∃ b off A1 c1, A = some ⟨b, off, none⟩ ∧ b < w.heap.size ∧ RdFo w (Iv 0 w.heap.size) (.slice A1 x.when_.kids.toList.length c1) x.when_.kids ∧ w.rangeAt b (off + i * 5) (rlCells x (.slice A1 x.when_.kids.toList.length c1)) := by
  obtain ⟨m, rfl, ⟨_, _, A', c', he, _, h3⟩, h4⟩ := h
  injection he with h1 h2 h5
  subst h1
  rw [List.getElem?_map] at hx
  cases hy : m[i]? with
  | none => rw [hy] at hx; cases hx
  | some y =>
    rw [hy] at hx
    injection hx with hx
    subst hx
    have hi : i < m.length := (List.getElem?_eq_some_iff.1 hy).1
    obtain ⟨b, off, rfl, hb, hcell⟩ := h3 (by omega)
    have r1 := h4 y (List.mem_of_getElem? hy)
    obtain ⟨A1, c1, e1, _, _⟩ := r1.form
    rw [e1] at r1
    refine ⟨b, off, A1, c1, rfl, hb, r1, fun j u hu => ?_⟩
    rw [Nat.add_assoc]
    refine hcell _ _ ((rls_at m i y hy j ?_).trans (by rw [e1]; exact hu))
    have := (List.getElem?_eq_some_iff.1 hu).1
    rw [rlCells_len] at this
    exact this

/-- Rules in a slice of the call's own, their trees in other blocks. -/
def RlMem (w : World) (base : Nat) (v : Value) (l : List Rl) (m : List (Rl × Value)) : Prop :=
  m.map (·.1) = l ∧ w.ownsRow base 58 5 v m.length (rlsCells m) ∧ ∀ y ∈ m, RdFo w (fun b => Iv base w.heap.size b ∧ some b ≠ v.ownBlock) y.2 y.1.when_.kids
theorem RlMem.nil (w : World) (base : Nat) : RlMem w base (.slice none 0 0) [] [] := ⟨rfl, World.ownsRow_nil _ _ _ _, nofun⟩
theorem own_rlt {w : World} {base size n : Nat} {e : TypeId} {v : Value} {xs : List Value} (h : w.ownsRow base e size v n xs) (g : Nat) (hg : v.ownBlock = some g) : base ≤ g ∧ g < w.heap.size := by
  rcases h.2 with ⟨rfl, _⟩ | ⟨g', cap, cur, rfl, hbg, hgg, _⟩
  · cases hg
  · have h' : some g' = some g := hg
    injection h' with h'
    subst h'
    exact ⟨hbg, (Array.getElem?_eq_some_iff.1 hgg).1⟩
theorem RlMem.gb {w w' : World} {base rb : Nat} {v : Value} {l : List Rl} {m : List (Rl × Value)} (h : RlMem w base v l m) (hg : w.grownBy w' (some rb)) (hr : rb < base) : RlMem w' base v l m := by
  obtain ⟨h1, h2, h3⟩ := h
  have hs := hg.size
  refine ⟨h1, ⟨h2.1, ?_⟩, fun y hy => ((h3 y hy).gb hg (fun b hb => ⟨by have := hb.1.1; omega, hb.1.2⟩)).more fun b hb => ⟨⟨hb.1.1, by have := hb.1.2; omega⟩, hb.2⟩⟩
  rcases h2.2 with hn | ⟨g, cap, cur, rfl, hbg, hgg, rest⟩
  · exact .inl hn
  · exact .inr ⟨g, cap, cur, rfl, hbg, (hg.block g (Array.getElem?_eq_some_iff.1 hgg).1 (fun e => by injection e; omega)).trans hgg, rest⟩
theorem RlMem.below {w w' : World} {base : Nat} {v : Value} {l : List Rl} {m : List (Rl × Value)} (h : RlMem w base v l m) (hb : Below w.heap.size w w') : RlMem w' base v l m := by
  obtain ⟨h1, h2, h3⟩ := h
  refine ⟨h1, ownsRow_below h2 hb, fun y hy => ((h3 y hy).below hb (fun b hb => hb.1.2)).more fun b hb' => ⟨⟨hb'.1.1, Nat.lt_of_lt_of_le hb'.1.2 hb.size⟩, hb'.2⟩⟩
theorem RlMem.setO {w : World} {base g i : Nat} {v u : Value} {l : List Rl} {m : List (Rl × Value)} (h : RlMem w base v l m) (hg : g < base) : RlMem (w.setCell ⟨g, i, none⟩ u) base v l m := by
  obtain ⟨h1, h2, h3⟩ := h
  refine ⟨h1, ⟨h2.1, ?_⟩, fun y hy => ?_⟩
  · rcases h2.2 with hn | ⟨g', cap, cur, rfl, hbg, hgg, rest⟩
    · exact .inl hn
    · exact .inr ⟨g', cap, cur, rfl, hbg, (Below.heap_setCell _ _ _ _ (fun e => by have e' : g' = g := e; omega)).trans hgg, rest⟩
  · rw [size_setCell]
    exact (h3 y hy).setCell (fun b hb => by have := hb.1.1; omega) _
theorem RlMem.drew {w : World} {base : Nat} {v : Value} {l : List Rl} {m : List (Rl × Value)} (h : RlMem w base v l m) : RlMem w.drew base v l m :=
  ⟨h.1, h.2.1, fun y hy => (h.2.2 y hy).keep fun _ _ => rfl⟩
theorem RlMem.rd {w : World} {base : Nat} {v : Value} {l : List Rl} {m : List (Rl × Value)} (h : RlMem w base v l m) : RdRl w v l :=
  ⟨m, h.1, Rd.of_own h.2.1, fun y hy => (h.2.2 y hy).more fun _ hb => ⟨Nat.zero_le _, hb.1.2⟩⟩
theorem RlMem.push {w w5 : World} {base gg cap : Nat} {v sv : Value} {l : List Rl} {m : List (Rl × Value)} {x : Rl} {lo : Nat} {o : Obj} (h : RlMem w base v l m) (hx : RdFo w (Iv lo w.heap.size) sv x.when_.kids) (hlo : base ≤ lo) (hv : ∀ g, v.ownBlock = some g → g < lo)
    (hown : w5.ownsRow base 58 5 (.slice (some ⟨gg, 0, none⟩) (m.length + 1) cap) (m.length + 1) (rlsCells m ++ rlCells x sv)) (hgrow : (w.alloc o).grownBy w5 v.ownBlock) (hat : v.ownBlock = some gg ∨ gg = (w.alloc o).heap.size) :
    RlMem w5 base (.slice (some ⟨gg, 0, none⟩) (m.length + 1) cap) (l ++ [x]) (m ++ [(x, sv)]) := by
  obtain ⟨h1, h2, h3⟩ := h
  have hs := hgrow.size
  rw [World.size_alloc] at hs
  have key : ∀ {u : Value} {f : Fo}, RdFo w (fun b => Iv base w.heap.size b ∧ some b ≠ v.ownBlock) u f → RdFo w5 (fun b => Iv base w5.heap.size b ∧ some b ≠ (Value.slice (some ⟨gg, 0, none⟩) (m.length + 1) cap).ownBlock) u f := fun hu => by
    refine (hu.keep fun p hp => ?_).more fun b hb => ⟨⟨hb.1.1, by have := hb.1.2; omega⟩, fun e => ?_⟩
    · rw [World.cell?_of_block (hgrow.block p.block (by rw [World.size_alloc]; have := hp.1.2; omega) hp.2), World.cell?_of_block (Below.heap_alloc w o p.block hp.1.2)]
    · have e' : some b = some gg := e
      injection e' with e'
      subst e'
      rcases hat with hq | hq
      · exact hb.2 hq.symm
      · have := hb.1.2; rw [World.size_alloc] at hq; omega
  refine ⟨by rw [List.map_append, h1]; rfl, ?_, fun y hy => ?_⟩
  · rw [List.length_append, rlsCells_snoc]; exact hown
  · rcases List.mem_append.1 hy with hy | hy
    · exact key (h3 y hy)
    · rw [List.mem_singleton.1 hy]
      exact key (hx.more fun b hb => ⟨⟨by have := hb.1; omega, hb.2⟩, fun e => by have := hv b e.symm; have := hb.1; omega⟩)

set_option maxRecDepth 100000 in
set_option maxHeartbeats 1000000 in
theorem catchR_panicking (g2 g3 g4 : Nat) (v : Value) (a b er off : Int) (older : List PanicEntry) (w : World)
    (h2 : w.heap[g2]? = some (.cells #[v] 34 (0, 0))) (h3 : w.heap[g3]? = some (.cells #[.int .i64 a] 28 (0, 0))) (h4 : w.heap[g4]? = some (.cells #[.int .i64 b] 3 (0, 0))) (hl2 : g2 < g3) (hl3 : g3 < g4) :
    CallsD Tryd.prog 47 #[.pointer (some ⟨g2, 0, none⟩), .pointer (some ⟨g3, 0, none⟩), .pointer (some ⟨g4, 0, none⟩)] (.panicking ({ v := .iface 62 (.agg #[.int .i64 er, .int .i64 off]), recovered := false } :: older)) w fun e u' w' =>
      e = .returned (.tuple #[]) ∧ u' = .panicking ({ v := .iface 62 (.agg #[.int .i64 er, .int .i64 off]), recovered := true } :: older) ∧
        w'.heap[g2]? = some (.cells #[.slice none 0 0] 34 (0, 0)) ∧ w'.heap[g3]? = some (.cells #[.int .i64 er] 28 (0, 0)) ∧ w'.heap[g4]? = some (.cells #[.int .i64 off] 3 (0, 0)) ∧ Below g2 w w' := by
  have hs2 := (Array.getElem?_eq_some_iff.1 h2).1
  have hs3 := (Array.getElem?_eq_some_iff.1 h3).1
  have hs4 := (Array.getElem?_eq_some_iff.1 h4).1
  refine callsD_of_wpS Tryd.func47 rfl fun c₀ cs hu => ?_
  apply wpS_seq
  apply wpS_region
  simp [wpOpsS, go_sem, recoverD, hu, Tryd.ntmps47, Exit.thenS, ta_fault]
  have q2 := hpA h2 (.cells #[.int .i64 er, .int .i64 off] 62)
  have q3 := hpA h3 (.cells #[.int .i64 er, .int .i64 off] 62)
  have q4 := hpA h4 (.cells #[.int .i64 er, .int .i64 off] 62)
  have qf := heap_alloc_last w (.cells #[.int .i64 er, .int .i64 off] 62)
  have qb := (Below.refl g2 w).alloc (Nat.le_of_lt hs2) (.cells #[.int .i64 er, .int .i64 off] 62)
  obtain ⟨N, hN⟩ : ∃ N, w.heap.size = N := ⟨_, rfl⟩
  obtain ⟨W1, hW1⟩ : ∃ W, w.alloc (.cells #[.int .i64 er, .int .i64 off] 62) = W := ⟨_, rfl⟩
  rw [hW1] at q2 q3 q4 qf qb ⊢
  rw [hN] at qf hs2 hs3 hs4 ⊢
  have Q2 := Lib.hid q2
  have Q3 := Lib.hid q3
  have Q4 := Lib.hid q4
  have QB := Lib.hid qb
  obtain ⟨a0, a1⟩ : W1.cell? ⟨N, 0, none⟩ = some (.int .i64 er) ∧ W1.cell? ⟨N, 1, none⟩ = some (.int .i64 off) := ⟨cell_of_box qf rfl, cell_of_box qf rfl⟩
  have b0 : W1.cell? ⟨g2, 0, none⟩ = some v := cell_of_box q2 rfl
  have c0 : W1.cell? ⟨g3, 0, none⟩ = some (.int .i64 a) := cell_of_box q3 rfl
  have d0 : W1.cell? ⟨g4, 0, none⟩ = some (.int .i64 b) := cell_of_box q4 rfl
  have z0 : W1.frozen? ⟨g2, 0, none⟩ = false := by simp [World.frozen?, q2]
  have y0 : W1.frozen? ⟨g3, 0, none⟩ = false := by simp [World.frozen?, q3]
  have x0 : W1.frozen? ⟨g4, 0, none⟩ = false := by simp [World.frozen?, q4]
  clear h2 h3 h4 q2 q3 q4 qf qb hW1 hN
  refine wpS_of_wp ?_
  simp only [Array.replicate_succ, Array.replicate_zero, List.push_toArray, List.append_toArray, List.nil_append, List.cons_append, List.setIfInBounds_toArray, List.set_cons_zero, List.set_cons_succ]
  go_wp2_with fail
  go_region
  go_wp2_with fail
  refine ⟨rfl, _, rfl, .tuple #[], by simp [results, Tryd.results47], rfl, rfl, ?_⟩
  have r2 := set1_heap Q2.out (.slice none 0 0)
  have r3 := hpS Q3.out (g' := g2) (i := 0) (by omega) (.slice none 0 0)
  have r4 := hpS Q4.out (g' := g2) (i := 0) (by omega) (.slice none 0 0)
  refine ⟨hpS (hpS r2 (by omega) _) (by omega) _, hpS (set1_heap r3 _) (by omega) _, set1_heap (hpS r4 (by omega) _) _, ?_⟩
  exact (((QB.out.setCell (p := ⟨g2, 0, none⟩) (Nat.le_refl _) _).setCell (p := ⟨g3, 0, none⟩) (by show g2 ≤ g3; omega) _).setCell (p := ⟨g4, 0, none⟩) (by show g2 ≤ g4; omega) _).drew

set_option maxRecDepth 100000 in
set_option maxHeartbeats 1000000 in
theorem catchR_idle (g2 g3 g4 : Nat) (w : World) :
    CallsD Tryd.prog 47 #[.pointer (some ⟨g2, 0, none⟩), .pointer (some ⟨g3, 0, none⟩), .pointer (some ⟨g4, 0, none⟩)] .returning w fun e u' w' => e = .returned (.tuple #[]) ∧ u' = .returning ∧ Below w.heap.size w w' := by
  refine callsD_of_wpS Tryd.func47 rfl fun c₀ cs hu => ?_
  apply wpS_seq
  apply wpS_region
  simp [wpOpsS, go_sem, recoverD, hu, Tryd.ntmps47, Exit.thenS, ta_none]
  refine wpS_of_wp ?_
  simp only [Array.replicate_succ, Array.replicate_zero, List.push_toArray, List.append_toArray, List.nil_append, List.cons_append, List.setIfInBounds_toArray, List.set_cons_zero, List.set_cons_succ]
  go_wp2_with fail
  refine ⟨rfl, .returning, ?_, .tuple #[], by simp [results, Tryd.results47], rfl, rfl, ?_⟩
  · cases c₀
    simp_all
  · exact (Below.refl _ _).alloc (Nat.le_refl _) _

theorem R3.set0 {w W : World} {t : TypeId} {v : Value} {a b : Int} (h : R3 w W t #[v] a b) (u : Value) : R3 w (W.setCell ⟨w.heap.size, 0, none⟩ u) t #[u] a b := by
  obtain ⟨h1, h2, h3, h4, h5⟩ := h
  exact ⟨set1_heap h1 _, hpS h2 (by omega) _, hpS h3 (by omega) _, h4.setCell (p := ⟨w.heap.size, 0, none⟩) (Nat.le_refl _) _, by simpa [World.setCell] using h5⟩
/-- What Parse leaves. -/
def ParseRPost (r : List Rl × Int × Int) (w : World) (e : Ending) (w' : World) : Prop :=
  ∃ v, e = .returned (.tuple #[v, .int .i64 r.2.1, .int .i64 r.2.2]) ∧ RdRl w' v r.1 ∧ Below w.heap.size w w'
theorem r3_rl {fn : Func} (h : fn.results = #[.cell 2 34, .cell 3 28, .cell 4 3]) (tmps : Array Value) {w W : World} {v : Value} {a b : Int} (hR : R3 w W 34 #[v] a b)
    (hp : tmps.getD 2 undef = .pointer (some ⟨w.heap.size, 0, none⟩)) (hq : tmps.getD 3 undef = .pointer (some ⟨w.heap.size + 1, 0, none⟩)) (hr : tmps.getD 4 undef = .pointer (some ⟨w.heap.size + 2, 0, none⟩)) :
    (results fn tmps).run Tryd.prog W = .ok (.tuple #[v, .int .i64 a, .int .i64 b]) W := by
  obtain ⟨c1, c2, _, _⟩ := hR.cells
  have c0 : W.cell? ⟨w.heap.size, 0, none⟩ = some v := cell_of_box hR.1 rfl
  have hp' : tmps[2]?.getD undef = .pointer (some ⟨w.heap.size, 0, none⟩) := by simpa using hp
  have hq' : tmps[3]?.getD undef = .pointer (some ⟨w.heap.size + 1, 0, none⟩) := by simpa using hq
  have hr' : tmps[4]?.getD undef = .pointer (some ⟨w.heap.size + 2, 0, none⟩) := by simpa using hr
  simp [results, h, hp', hq', hr', asAddr, go_sem, c0, c1, c2]
theorem doorR_bad {w W : World} {v : Value} {a b er off : Int} {tmps : Array Value} (hR : R3 w W 34 #[v] a b)
    (hp : tmps.getD 2 undef = .pointer (some ⟨w.heap.size, 0, none⟩)) (hq : tmps.getD 3 undef = .pointer (some ⟨w.heap.size + 1, 0, none⟩)) (hr : tmps.getD 4 undef = .pointer (some ⟨w.heap.size + 2, 0, none⟩)) :
    Leaves Tryd.prog Tryd.f21 tmps (ParseRPost ([], er, off) w) [{ target := .fn (.func 47) #[.pointer (some ⟨w.heap.size, 0, none⟩), .pointer (some ⟨w.heap.size + 1, 0, none⟩), .pointer (some ⟨w.heap.size + 2, 0, none⟩)], args := #[] }]
      (.panicking [{ v := .iface 62 (.agg #[.int .i64 er, .int .i64 off]), recovered := false }]) W := by
  refine leaves_cons (f := 47) (args := #[.pointer (some ⟨w.heap.size, 0, none⟩), .pointer (some ⟨w.heap.size + 1, 0, none⟩), .pointer (some ⟨w.heap.size + 2, 0, none⟩)]) (by simp) (by simp [go_sem]) ?_
  refine (catchR_panicking w.heap.size (w.heap.size + 1) (w.heap.size + 2) v a b er off [] W hR.1 hR.2.1 hR.2.2.1 (by omega) (by omega)).mono ?_
  rintro e u' w' ⟨rfl, rfl, h2, h3, h4, hb⟩
  have hR' := hR.of_catch h2 h3 h4 hb
  exact ⟨_, r3_rl Tryd.results21 tmps hR' hp hq hr, _, rfl, RdRl.nil _, hR'.2.2.2.1⟩
theorem doorR_ok {w W : World} {v : Value} {l : List Rl} {a b : Int} {tmps : Array Value} (hR : R3 w W 34 #[v] a b) (hx : RdRl W v l)
    (hp : tmps.getD 2 undef = .pointer (some ⟨w.heap.size, 0, none⟩)) (hq : tmps.getD 3 undef = .pointer (some ⟨w.heap.size + 1, 0, none⟩)) (hr : tmps.getD 4 undef = .pointer (some ⟨w.heap.size + 2, 0, none⟩)) :
    Leaves Tryd.prog Tryd.f21 tmps (ParseRPost (l, a, b) w) [{ target := .fn (.func 47) #[.pointer (some ⟨w.heap.size, 0, none⟩), .pointer (some ⟨w.heap.size + 1, 0, none⟩), .pointer (some ⟨w.heap.size + 2, 0, none⟩)], args := #[] }] .returning W := by
  refine leaves_cons (f := 47) (args := #[.pointer (some ⟨w.heap.size, 0, none⟩), .pointer (some ⟨w.heap.size + 1, 0, none⟩), .pointer (some ⟨w.heap.size + 2, 0, none⟩)]) (by simp) (by simp [go_sem]) ?_
  refine (catchR_idle w.heap.size (w.heap.size + 1) (w.heap.size + 2) W).mono ?_
  rintro e u' w' ⟨rfl, rfl, hb⟩
  have hR' := hR.below hb
  exact ⟨_, r3_rl Tryd.results21 tmps hR' hp hq hr, v, rfl, hx.next hb, hR'.2.2.2.1⟩

end Go.Proofs.YtkalkglllgebkaaDoor
