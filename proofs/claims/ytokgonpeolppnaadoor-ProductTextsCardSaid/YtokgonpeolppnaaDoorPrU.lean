/-
  The contract of sawmillref19.one.
-/
import Derived.Test.YtokgonpeolppnaaDoorPrS
import Derived.Test.YtokgonpeolppnaaDoorPrJ
namespace Saw
theorem nextS_bad {xs : List Lx} {s : Nat × Bool} {p : Int × List UInt8} (h : (nextS xs s p).2 = false) : s.2 = false := (okS_two (nextS_ok h).1).1
theorem nextS_lex {xs : List Lx} {s : Nat × Bool} {p : Int × List UInt8} (h : (nextS xs s p).2 = false) : lexS xs s p = lxAt xs s.1 := (nextS_ok h).2.2
theorem okS_failed {xs : List Lx} {s : Nat × Bool} (h : s.2 = true) (p : Int × List UInt8) : okS xs s p = false := by rw [okS, h]; rfl
theorem nextS_failed {xs : List Lx} {s : Nat × Bool} (h : s.2 = true) (p : Int × List UInt8) : nextS xs s p = s := by
  rw [nextS, okS_failed h, if_neg (by decide), ← h]
theorem pairS_failed {xs : List Lx} {s : Nat × Bool} (h : s.2 = true) : pairS xs s = s := by
  rw [pairS, nextS_failed h, nextS_failed h, nextS_failed h]
theorem pairsS_failed {xs : List Lx} {s : Nat × Bool} (h : s.2 = true) (n : Nat) (ls ps : List Int) : (pairsS xs n s ls ps).2.2 = s := by
  cases n with
  | zero => rfl
  | succ n => rw [pairsS, pairS_failed h, okS_failed h, if_neg (by decide)]
theorem pairS_ok {xs : List Lx} {s : Nat × Bool} (h : (pairS xs s).2 = false) : pairL xs s = (lxAt xs s.1).num ∧ pairP xs s = (lxAt xs (nextS xs (nextS xs s (2, [])) (3, [64])).1).num := by
  have h3 := nextS_bad h
  have h2 := nextS_bad h3
  exact ⟨by rw [pairL, nextS_lex h2], by rw [pairP, nextS_lex h]⟩
/-- What the reference has read of the head of a product, if all of it fits. -/
theorem prodS_head {xs : List Lx} {s : Nat × Bool} (h : (hd10 xs s).2 = false) : (lexS xs (hd1 xs s) (1, [])).text = (lxAt xs (hd1 xs s).1).text ∧ (lexS xs (hd2 xs s) (2, [])).num = (lxAt xs (hd2 xs s).1).num ∧ (lexS xs (hd4 xs s) (2, [])).num = (lxAt xs (hd4 xs s).1).num ∧ (lexS xs (hd6 xs s) (2, [])).num = (lxAt xs (hd6 xs s).1).num ∧ (lexS xs (hd8 xs s) (2, [])).num = (lxAt xs (hd8 xs s).1).num := by
  have h9 := nextS_bad h
  have h8 := nextS_bad h9
  have h7 := nextS_bad h8
  have h6 := nextS_bad h7
  have h5 := nextS_bad h6
  have h4 := nextS_bad h5
  have h3 := nextS_bad h4
  have h2 := nextS_bad h3
  exact ⟨by rw [nextS_lex h2], by rw [nextS_lex h3], by rw [nextS_lex h5], by rw [nextS_lex h7], by rw [nextS_lex h9]⟩
theorem pairsS_bad {xs : List Lx} {n : Nat} {s : Nat × Bool} {ls ps : List Int} (h : (pairsS xs n s ls ps).2.2.2 = false) : s.2 = false := by
  cases hs : s.2 with
  | false => rfl
  | true => rw [pairsS_failed hs, hs] at h; cases h
end Saw
namespace Go.RowKit
theorem results_cells {P : Program} {fn : Func} {p q : Tmp} {ty ty2 : TypeId} (h : fn.results = #[.cell p ty, .cell q ty2]) (tmps : Array Value) (w : World) (g g2 : Nat) (cs cs2 : List Value) {td td2 : TypeDesc}
    (hp : tmps.getD p undef = .pointer (some ⟨g, 0, none⟩)) (hc : w.rangeAt g 0 cs) (hu : P.underlying ty = some td) (hd : td.isRow = true) (hi : (P.info? ty).map (·.size) = some cs.length)
    (hq : tmps.getD q undef = .pointer (some ⟨g2, 0, none⟩)) (hc2 : w.rangeAt g2 0 cs2) (hu2 : P.underlying ty2 = some td2) (hd2 : td2.isRow = true) (hi2 : (P.info? ty2).map (·.size) = some cs2.length) :
    (results fn tmps).run P w = .ok (.tuple #[.agg cs.toArray, .agg cs2.toArray]) w := by
  have hp' : tmps[p]?.getD undef = .pointer (some ⟨g, 0, none⟩) := by simpa using hp
  have hq' : tmps[q]?.getD undef = .pointer (some ⟨g2, 0, none⟩) := by simpa using hq
  simp [results, h, hp', hq', asAddr, run_loadVar_mid w g 0 ty cs td hc hu hd hi, run_loadVar_mid w g2 0 ty2 cs2 td2 hc2 hu2 hd2 hi2]
end Go.RowKit
namespace Go.Proofs.YtokgonpeolppnaaDoor
open Go.RowKit Saw

theorem set7_heap {W : World} {g : Nat} {a0 a1 a2 a3 a4 a5 a6 x0 x1 x2 x3 x4 x5 x6 : Value} {t : TypeId} (h : W.heap[g]? = some (.cells #[a0, a1, a2, a3, a4, a5, a6] t (0, 0))) : (((((((W.setCell ⟨g, 0, none⟩ x0).setCell ⟨g, 1, none⟩ x1).setCell ⟨g, 2, none⟩ x2).setCell ⟨g, 3, none⟩ x3).setCell ⟨g, 4, none⟩ x4).setCell ⟨g, 5, none⟩ x5).setCell ⟨g, 6, none⟩ x6).heap[g]? = some (.cells #[x0, x1, x2, x3, x4, x5, x6] t (0, 0)) := by
  have h1 : (W.setCell ⟨g, 0, none⟩ x0).heap[g]? = some (.cells #[x0, a1, a2, a3, a4, a5, a6] t (0, 0)) := by rw [set3_heap' h]; rfl
  have h2 : ((W.setCell ⟨g, 0, none⟩ x0).setCell ⟨g, 1, none⟩ x1).heap[g]? = some (.cells #[x0, x1, a2, a3, a4, a5, a6] t (0, 0)) := by rw [set3_heap' h1]; rfl
  have h3 : (((W.setCell ⟨g, 0, none⟩ x0).setCell ⟨g, 1, none⟩ x1).setCell ⟨g, 2, none⟩ x2).heap[g]? = some (.cells #[x0, x1, x2, a3, a4, a5, a6] t (0, 0)) := by rw [set3_heap' h2]; rfl
  have h4 : ((((W.setCell ⟨g, 0, none⟩ x0).setCell ⟨g, 1, none⟩ x1).setCell ⟨g, 2, none⟩ x2).setCell ⟨g, 3, none⟩ x3).heap[g]? = some (.cells #[x0, x1, x2, x3, a4, a5, a6] t (0, 0)) := by rw [set3_heap' h3]; rfl
  have h5 : (((((W.setCell ⟨g, 0, none⟩ x0).setCell ⟨g, 1, none⟩ x1).setCell ⟨g, 2, none⟩ x2).setCell ⟨g, 3, none⟩ x3).setCell ⟨g, 4, none⟩ x4).heap[g]? = some (.cells #[x0, x1, x2, x3, x4, a5, a6] t (0, 0)) := by rw [set3_heap' h4]; rfl
  have h6 : ((((((W.setCell ⟨g, 0, none⟩ x0).setCell ⟨g, 1, none⟩ x1).setCell ⟨g, 2, none⟩ x2).setCell ⟨g, 3, none⟩ x3).setCell ⟨g, 4, none⟩ x4).setCell ⟨g, 5, none⟩ x5).heap[g]? = some (.cells #[x0, x1, x2, x3, x4, x5, a6] t (0, 0)) := by rw [set3_heap' h5]; rfl
  rw [set3_heap' h6]; rfl

/-- How memory stands while the reference reads a product: the reader, the two results, the product. -/
def OSt (w W : World) (lv : Value) (k : Nat) (bad : Int) (cs : Array Value) : Prop :=
  W.heap[w.heap.size]? = some (.cells (rrCells lv k bad).toArray 60 (0, 0)) ∧ W.heap[w.heap.size + 1]? = some (.cells #[.slice none 0 0, .int .i64 0, .int .i64 0] 60 (0, 0)) ∧ W.heap[w.heap.size + 2]? = some (.cells #[.string ⟨#[]⟩, .int .i64 0, .int .i64 0, .int .i64 0, .int .i64 0, .slice none 0 0, .slice none 0 0] 29 (0, 0)) ∧ W.heap[w.heap.size + 3]? = some (.cells cs 29 (0, 0)) ∧ Below w.heap.size w W
section
variable {w W W' : World} {lv : Value} {k k' : Nat} {bad bad' : Int} {cs : Array Value}
theorem OSt.lt (h : OSt w W lv k bad cs) : w.heap.size + 3 < W.heap.size := (Array.getElem?_eq_some_iff.1 h.2.2.2.1).1
theorem OSt.call (h : OSt w W lv k bad cs) (hb : Below W.heap.size W W') : OSt w W' lv k bad cs := by
  have hl := h.lt
  obtain ⟨h0, h1, h2, h3, h4⟩ := h
  exact ⟨(hb.block _ (by omega)).trans h0, (hb.block _ (by omega)).trans h1, (hb.block _ (by omega)).trans h2, (hb.block _ (by omega)).trans h3, h4.trans (hb.mono h4.size)⟩
theorem OSt.alloc (h : OSt w W lv k bad cs) (ob : Obj) : OSt w (W.alloc ob) lv k bad cs := h.call ((Below.refl _ _).alloc (Nat.le_refl _) ob)
theorem OSt.drew (h : OSt w W lv k bad cs) : OSt w W.drew lv k bad cs := ⟨h.1, h.2.1, h.2.2.1, h.2.2.2.1, h.2.2.2.2.drew⟩
theorem OSt.put (h : OSt w W lv k bad cs) (k' : Nat) (bad' : Int) : OSt w (W.setRow w.heap.size (rrCells lv k' bad').toArray) lv k' bad' cs := by
  obtain ⟨h0, h1, h2, h3, h4⟩ := h
  exact ⟨setRow_heap _ _ _ _ _ _ h0, (setRow_other _ _ _ _ (by omega)).trans h1, (setRow_other _ _ _ _ (by omega)).trans h2, (setRow_other _ _ _ _ (by omega)).trans h3, Below.setRow h4 (Nat.le_refl _) _⟩
theorem OSt.far (h : OSt w W lv k bad cs) {g : Nat} (hg : w.heap.size + 3 < g) (c' : Array Value) : OSt w (W.setRow g c') lv k bad cs := by
  obtain ⟨h0, h1, h2, h3, h4⟩ := h
  exact ⟨(setRow_other _ _ _ _ (by omega)).trans h0, (setRow_other _ _ _ _ (by omega)).trans h1, (setRow_other _ _ _ _ (by omega)).trans h2, (setRow_other _ _ _ _ (by omega)).trans h3, Below.setRow h4 (by omega) _⟩
theorem OSt.set (h : OSt w W lv k bad cs) (j : Nat) (v : Value) : OSt w (W.setCell ⟨w.heap.size + 3, j, none⟩ v) lv k bad (cs.setIfInBounds j v) := by
  obtain ⟨h0, h1, h2, h3, h4⟩ := h
  refine ⟨hpS h0 (by omega) _, hpS h1 (by omega) _, hpS h2 (by omega) _, ?_, h4.setCell (by show w.heap.size ≤ w.heap.size + 3; omega) _⟩
  rw [setCell_eq_setRow W _ j _ _ _ _ h3, setRow_heap _ _ _ _ _ _ h3]
theorem OSt.cell (h : OSt w W lv k bad cs) (j : Nat) (v : Value) (hv : cs[j]? = some v) : W.cell? ⟨w.heap.size + 3, j, none⟩ = some v := by
  rw [cell_of_row W _ j _ _ (0, 0) h.2.2.2.1]; exact hv
theorem OSt.frozen (h : OSt w W lv k bad cs) (j : Nat) : W.frozen? ⟨w.heap.size + 3, j, none⟩ = false := by simp [World.frozen?, h.2.2.2.1]
theorem OSt.rdr (h : OSt w W lv k bad cs) : W.cell? ⟨w.heap.size, 0, none⟩ = some lv ∧ W.cell? ⟨w.heap.size, 1, none⟩ = some (.int .i64 k) ∧ W.cell? ⟨w.heap.size, 2, none⟩ = some (.int .i64 bad) := by
  refine ⟨?_, ?_, ?_⟩
  · rw [cell_of_row W _ 0 _ _ (0, 0) h.1]; rfl
  · rw [cell_of_row W _ 1 _ _ (0, 0) h.1]; rfl
  · rw [cell_of_row W _ 2 _ _ (0, 0) h.1]; rfl
/-- A row of the call's own has grown. -/
theorem OSt.grow (h : OSt w W lv k bad cs) {row : Option Nat} (hg : W.grownBy W' row) (hr : ∀ g, row = some g → w.heap.size + 4 ≤ g) : OSt w W' lv k bad cs := by
  have hl := h.lt
  obtain ⟨h0, h1, h2, h3, h4⟩ := h
  have hk : ∀ j, j < w.heap.size + 4 → some j ≠ row := fun j hj e => by have := hr j e.symm; omega
  exact ⟨(hg.block _ (by omega) (hk _ (by omega))).trans h0, (hg.block _ (by omega) (hk _ (by omega))).trans h1, (hg.block _ (by omega) (hk _ (by omega))).trans h2, (hg.block _ (by omega) (hk _ (by omega))).trans h3, h4.grown hg h4.size (fun j hj => by have := hr j hj; omega)⟩
end
/-- A row of the call's own is appended to, and the new slice is stored in the product. -/
theorem opush_row {w w1 w5 : World} {gg cap k : Nat} {lv v1 v2 : Value} {bad : Int} {cs : Array Value} {ls ps : List Int} {x : Int} {ob : Obj} (h : OSt w w1 lv k bad cs) (o1 : OwnsI w1 (w.heap.size + 4) v1 ls) (o2 : OwnsI w1 (w.heap.size + 4) v2 ps) (hap : Apart v1 v2)
    (hown : w5.ownsRow (w.heap.size + 4) 3 1 (.slice (some ⟨gg, 0, none⟩) (ls.length + 1) cap) (ls.length + 1) (ints ls ++ [.int .i64 x])) (hgrow : (w1.alloc ob).grownBy w5 v1.ownBlock) (hat : v1.ownBlock = some gg ∨ gg = (w1.alloc ob).heap.size) (j : Nat) :
    OSt w (w5.setCell ⟨w.heap.size + 3, j, none⟩ (.slice (some ⟨gg, 0, none⟩) (ls.length + 1) cap)) lv k bad (cs.setIfInBounds j (.slice (some ⟨gg, 0, none⟩) (ls.length + 1) cap)) ∧
      OwnsI (w5.setCell ⟨w.heap.size + 3, j, none⟩ (.slice (some ⟨gg, 0, none⟩) (ls.length + 1) cap)) (w.heap.size + 4) (.slice (some ⟨gg, 0, none⟩) (ls.length + 1) cap) (ls ++ [x]) ∧
      OwnsI (w5.setCell ⟨w.heap.size + 3, j, none⟩ (.slice (some ⟨gg, 0, none⟩) (ls.length + 1) cap)) (w.heap.size + 4) v2 ps ∧ Apart (.slice (some ⟨gg, 0, none⟩) (ls.length + 1) cap) v2 := by
  refine ⟨((h.alloc ob).grow hgrow (fun g hg => (o1.ge g hg).1)).set j _, OwnsI.push hown (by omega), ((o2.alloc ob).grow hgrow (fun g hg hr => hap g hr hg)).set (by omega), ?_⟩
  intro g hg hv
  have e : some gg = some g := hg
  injection e with e
  subst e
  rcases hat with h1 | h1
  · exact hap _ h1 hv
  · have := (o2.ge _ hv).2
    rw [World.size_alloc] at h1
    omega
theorem opush_held {w w1 w5 : World} {k : Nat} {lv v1 : Value} {bad : Int} {cs : Array Value} {ls : List Int} {ob : Obj} (h : OSt w w1 lv k bad cs) (o1 : OwnsI w1 (w.heap.size + 4) v1 ls) (hgrow : (w1.alloc ob).grownBy w5 v1.ownBlock) {j : Nat} {v : Value} (hv : cs[j]? = some v) : w5.cell? ⟨w.heap.size + 3, j, none⟩ = some v ∧ w5.frozen? ⟨w.heap.size + 3, j, none⟩ = false := by
  have h1 := (h.alloc ob).grow hgrow (fun g hg => (o1.ge g hg).1)
  exact ⟨h1.cell j v hv, h1.frozen j⟩
theorem OwnsI.call {W W' : World} {base : Nat} {v : Value} {l : List Int} (h : OwnsI W base v l) (hb : Below W.heap.size W W') : OwnsI W' base v l := ownsRow_below h hb

theorem OwnsI.keep' {W W' : World} {base : Nat} {v : Value} {l : List Int} (h : OwnsI W base v l) (hk : ∀ k, base ≤ k → W'.heap[k]? = W.heap[k]?) : OwnsI W' base v l := by
  refine ⟨h.1, ?_⟩
  rcases h.2 with hn | ⟨g, cap, cur, rfl, hbg, hgg, rest⟩
  · exact .inl hn
  · exact .inr ⟨g, cap, cur, rfl, hbg, (hk g hbg).trans hgg, rest⟩
/-- The two results are stored. -/
def FinW (w wf W : World) (c1 c2 : Array Value) : Prop :=
  W.heap[w.heap.size + 1]? = some (.cells c1 60 (0, 0)) ∧ W.heap[w.heap.size + 2]? = some (.cells c2 29 (0, 0)) ∧ (∀ k, k ≠ w.heap.size + 1 → k ≠ w.heap.size + 2 → W.heap[k]? = wf.heap[k]?) ∧ Below w.heap.size w W
theorem FinW.set1 {w wf W : World} {c1 c2 : Array Value} (h : FinW w wf W c1 c2) (j : Nat) (v : Value) (c' : Array Value) (hc : c1.setIfInBounds j v = c') : FinW w wf (W.setCell ⟨w.heap.size + 1, j, none⟩ v) c' c2 := by
  subst hc
  exact ⟨set3_heap' h.1 v j, hpS h.2.1 (by omega) _, fun k h1 h2 => (Below.heap_setCell _ _ _ _ h1).trans (h.2.2.1 k h1 h2), h.2.2.2.setCell (by show w.heap.size ≤ w.heap.size + 1; omega) _⟩
theorem FinW.set2 {w wf W : World} {c1 c2 : Array Value} (h : FinW w wf W c1 c2) (j : Nat) (v : Value) (c' : Array Value) (hc : c2.setIfInBounds j v = c') : FinW w wf (W.setCell ⟨w.heap.size + 1 + 1, j, none⟩ v) c1 c' := by
  subst hc
  exact ⟨hpS h.1 (by omega) _, set3_heap' h.2.1 v j, fun k h1 h2 => (Below.heap_setCell _ _ _ _ h2).trans (h.2.2.1 k h1 h2), h.2.2.2.setCell (by show w.heap.size ≤ w.heap.size + 1 + 1; omega) _⟩
theorem FinW.of {w W : World} {lv : Value} {k : Nat} {bad : Int} {cs : Array Value} (h : OSt w W lv k bad cs) : FinW w W W #[.slice none 0 0, .int .i64 0, .int .i64 0] #[.string ⟨#[]⟩, .int .i64 0, .int .i64 0, .int .i64 0, .int .i64 0, .slice none 0 0, .slice none 0 0] := ⟨h.2.1, h.2.2.1, fun _ _ _ => rfl, h.2.2.2.2⟩
theorem FinW.own {w wf W : World} {c1 c2 : Array Value} (h : FinW w wf W c1 c2) {v : Value} {l : List Int} (ho : OwnsI wf (w.heap.size + 4) v l) : OwnsI W w.heap.size v l :=
  OwnsI.deeper (ho.keep' fun k hk => h.2.2.1 k (by omega) (by omega)) (by omega)
theorem OSt.all {w W : World} {lv v1 v2 : Value} {k : Nat} {bad a b c d : Int} {nm : List UInt8} (h : OSt w W lv k bad #[.string (str nm), .int .i64 a, .int .i64 b, .int .i64 c, .int .i64 d, v1, v2]) :
    (W.cell? ⟨w.heap.size, 0, none⟩ = some (lv) ∧ W.cell? ⟨w.heap.size, 1, none⟩ = some (.int .i64 k) ∧ W.cell? ⟨w.heap.size, 2, none⟩ = some (.int .i64 bad)) ∧ (W.cell? ⟨w.heap.size + 3, 0, none⟩ = some (.string (str nm)) ∧ W.cell? ⟨w.heap.size + 3, 1, none⟩ = some (.int .i64 a) ∧ W.cell? ⟨w.heap.size + 3, 2, none⟩ = some (.int .i64 b) ∧ W.cell? ⟨w.heap.size + 3, 3, none⟩ = some (.int .i64 c) ∧ W.cell? ⟨w.heap.size + 3, 4, none⟩ = some (.int .i64 d) ∧ W.cell? ⟨w.heap.size + 3, 5, none⟩ = some (v1) ∧ W.cell? ⟨w.heap.size + 3, 6, none⟩ = some (v2)) ∧ (W.cell? ⟨w.heap.size + 1, 0, none⟩ = some (.slice none 0 0) ∧ W.cell? ⟨w.heap.size + 1, 1, none⟩ = some (.int .i64 0) ∧ W.cell? ⟨w.heap.size + 1, 2, none⟩ = some (.int .i64 0) ∧ W.frozen? ⟨w.heap.size + 1, 0, none⟩ = false ∧ W.frozen? ⟨w.heap.size + 1, 1, none⟩ = false ∧ W.frozen? ⟨w.heap.size + 1, 2, none⟩ = false) ∧ (W.cell? ⟨w.heap.size + 2, 0, none⟩ = some (.string ⟨#[]⟩) ∧ W.cell? ⟨w.heap.size + 2, 1, none⟩ = some (.int .i64 0) ∧ W.cell? ⟨w.heap.size + 2, 2, none⟩ = some (.int .i64 0) ∧ W.cell? ⟨w.heap.size + 2, 3, none⟩ = some (.int .i64 0) ∧ W.cell? ⟨w.heap.size + 2, 4, none⟩ = some (.int .i64 0) ∧ W.cell? ⟨w.heap.size + 2, 5, none⟩ = some (.slice none 0 0) ∧ W.cell? ⟨w.heap.size + 2, 6, none⟩ = some (.slice none 0 0) ∧ W.frozen? ⟨w.heap.size + 2, 0, none⟩ = false ∧ W.frozen? ⟨w.heap.size + 2, 1, none⟩ = false ∧ W.frozen? ⟨w.heap.size + 2, 2, none⟩ = false ∧ W.frozen? ⟨w.heap.size + 2, 3, none⟩ = false ∧ W.frozen? ⟨w.heap.size + 2, 4, none⟩ = false ∧ W.frozen? ⟨w.heap.size + 2, 5, none⟩ = false ∧ W.frozen? ⟨w.heap.size + 2, 6, none⟩ = false) := by
  obtain ⟨h0, h1, h2, h3, _⟩ := h
  refine ⟨⟨by rw [cell_of_row W _ 0 _ _ (0, 0) h0]; rfl, by rw [cell_of_row W _ 1 _ _ (0, 0) h0]; rfl, by rw [cell_of_row W _ 2 _ _ (0, 0) h0]; rfl⟩, ⟨by rw [cell_of_row W _ 0 _ _ (0, 0) h3]; rfl, by rw [cell_of_row W _ 1 _ _ (0, 0) h3]; rfl, by rw [cell_of_row W _ 2 _ _ (0, 0) h3]; rfl, by rw [cell_of_row W _ 3 _ _ (0, 0) h3]; rfl, by rw [cell_of_row W _ 4 _ _ (0, 0) h3]; rfl, by rw [cell_of_row W _ 5 _ _ (0, 0) h3]; rfl, by rw [cell_of_row W _ 6 _ _ (0, 0) h3]; rfl⟩, ⟨by rw [cell_of_row W _ 0 _ _ (0, 0) h1]; rfl, by rw [cell_of_row W _ 1 _ _ (0, 0) h1]; rfl, by rw [cell_of_row W _ 2 _ _ (0, 0) h1]; rfl, by simp [World.frozen?, h1], by simp [World.frozen?, h1], by simp [World.frozen?, h1]⟩, ⟨by rw [cell_of_row W _ 0 _ _ (0, 0) h2]; rfl, by rw [cell_of_row W _ 1 _ _ (0, 0) h2]; rfl, by rw [cell_of_row W _ 2 _ _ (0, 0) h2]; rfl, by rw [cell_of_row W _ 3 _ _ (0, 0) h2]; rfl, by rw [cell_of_row W _ 4 _ _ (0, 0) h2]; rfl, by rw [cell_of_row W _ 5 _ _ (0, 0) h2]; rfl, by rw [cell_of_row W _ 6 _ _ (0, 0) h2]; rfl, by simp [World.frozen?, h2], by simp [World.frozen?, h2], by simp [World.frozen?, h2], by simp [World.frozen?, h2], by simp [World.frozen?, h2], by simp [World.frozen?, h2], by simp [World.frozen?, h2]⟩⟩

theorem suff_of {P Q : Prop} (hp : P) (h : P → Q) : Q := h hp
def OnePost (lv : Value) (xs : List Lx) (r : Pr × (Nat × Bool)) (w : World) (e : Ending) (w' : World) : Prop :=
  ∃ (y : Pr) (v1 v2 : Value), e = .returned (.tuple #[.agg #[lv, .int .i64 r.2.1, .int .i64 (badOf xs r.2)], .agg (prCells y v1 v2).toArray]) ∧ OwnsI w' w.heap.size v1 y.lens ∧ OwnsI w' w.heap.size v2 y.prices ∧ (r.2.2 = false → y = r.1) ∧ Below w.heap.size w w'

/-- What holds ahead of a round of the loop. -/
def OneRel (w : World) (lv : Value) (xs : List Lx) (nm : List UInt8) (a b c d : Int) (R : List Int × List Int × (Nat × Bool)) (wr : World) : Prop :=
  ∃ (s : Nat × Bool) (ls ps : List Int) (v1 v2 : Value), s.1 < xs.length ∧ ls.length ≤ s.1 + 1 ∧ ps.length ≤ s.1 + 1 ∧ (s.2 = false → ls.length ≤ s.1 ∧ ps.length ≤ s.1) ∧ OSt w wr lv s.1 (badOf xs s) #[.string (str nm), .int .i64 a, .int .i64 b, .int .i64 c, .int .i64 d, v1, v2] ∧
    OwnsI wr (w.heap.size + 4) v1 ls ∧ OwnsI wr (w.heap.size + 4) v2 ps ∧ Apart v1 v2 ∧ (s.2 = false → ∃ n, xs.length - s.1 ≤ n ∧ pairsS xs n s ls ps = R) ∧ (s.2 = true → R.2.2 = s)
def oneLeft (xs : List Lx) (N : Nat) (w : World) : Nat := match w.cell? ⟨N, 2, none⟩, w.cell? ⟨N, 1, none⟩ with | some (.int _ m), some (.int _ n) => if 0 ≤ m then 0 else xs.length - n.toNat + 1 | _, _ => 0
theorem oneLeft_of {w W : World} {xs : List Lx} {lv : Value} {s : Nat × Bool} {cs : Array Value} (h : OSt w W lv s.1 (badOf xs s) cs) (hof : ∀ x ∈ xs, 0 ≤ x.off) (hs : s.1 < xs.length) : oneLeft xs w.heap.size W = if s.2 then 0 else xs.length - s.1 + 1 := by
  unfold oneLeft
  simp only [h.rdr.2.1, h.rdr.2.2]
  cases hf : s.2 with
  | true =>
    have hb : badOf xs s = (lxAt xs s.1).off := by simp [badOf, hf]
    rw [hb, if_pos (hof _ (List.mem_of_getElem? (lxAt_some hs)))]; rfl
  | false =>
    have hb : badOf xs s = -1 := by simp [badOf, hf]
    rw [hb, if_neg (by decide), Int.toNat_natCast]; rfl

set_option maxRecDepth 100000 in
set_option maxHeartbeats 4000000 in
theorem one_any (A0 : Option Addr) (cc : Nat) (xs : List Lx) (s : Nat × Bool) (w : World) (hl : Rd w w.heap.size 4 (.slice A0 xs.length cc) xs.length (lxsCells xs)) (hkx : s.1 < xs.length) (hxl : xs.length ≤ 100000) (hend : LxEnds xs) (hof : ∀ x ∈ xs, 0 ≤ x.off) :
    Calls Tryd.prog 40 #[.agg #[(.slice A0 xs.length cc), .int .i64 s.1, .int .i64 (badOf xs s)]] w (OnePost (.slice A0 xs.length cc) xs (prodS xs s) w) := by
  obtain ⟨r, hrr⟩ : ∃ r, prodS xs s = r := ⟨_, rfl⟩
  rw [hrr]
  obtain ⟨i1, i2, i3, i4, i5, i6, i7, i8, i9, i10⟩ := hd10_in hend hkx
  have HRR := Lib.hid hrr
  have HL := Lib.hid (fun (W : World) (hb : Below w.heap.size w W) => hl.next hb)
  have HEND := Lib.hid hend
  have HOF := Lib.hid hof
  have hxm : xs.length < 1000000 := by omega
  have H3 := fun k bad => Lib.hid (show (rrCells (.slice A0 xs.length cc) k bad).toArray.size = 3 from rfl)
  have HS0 := Lib.hid (show OSt w ((((w.alloc (.cells #[(.slice A0 xs.length cc), .int .i64 s.1, .int .i64 (badOf xs s)] 60)).alloc (.cells #[.slice none 0 0, .int .i64 0, .int .i64 0] 60)).alloc (.cells #[.string ⟨#[]⟩, .int .i64 0, .int .i64 0, .int .i64 0, .int .i64 0, .slice none 0 0, .slice none 0 0] 29)).alloc (.cells #[.string ⟨#[]⟩, .int .i64 0, .int .i64 0, .int .i64 0, .int .i64 0, .slice none 0 0, .slice none 0 0] 29)) (.slice A0 xs.length cc) s.1 (badOf xs s) #[.string ⟨#[]⟩, .int .i64 0, .int .i64 0, .int .i64 0, .int .i64 0, .slice none 0 0, .slice none 0 0] from by
    have s1 : (w.alloc (.cells #[(.slice A0 xs.length cc), .int .i64 s.1, .int .i64 (badOf xs s)] 60)).heap.size = w.heap.size + 1 := World.size_alloc _ _
    have s2 : ((w.alloc (.cells #[(.slice A0 xs.length cc), .int .i64 s.1, .int .i64 (badOf xs s)] 60)).alloc (.cells #[.slice none 0 0, .int .i64 0, .int .i64 0] 60)).heap.size = w.heap.size + 2 := by rw [World.size_alloc, s1]
    have s3 : (((w.alloc (.cells #[(.slice A0 xs.length cc), .int .i64 s.1, .int .i64 (badOf xs s)] 60)).alloc (.cells #[.slice none 0 0, .int .i64 0, .int .i64 0] 60)).alloc (.cells #[.string ⟨#[]⟩, .int .i64 0, .int .i64 0, .int .i64 0, .int .i64 0, .slice none 0 0, .slice none 0 0] 29)).heap.size = w.heap.size + 3 := by rw [World.size_alloc, s2]
    refine ⟨hpA (hpA (hpA (heap_alloc_last w _) _) _) _, hpA (hpA ?_ _) _, hpA ?_ _, ?_, bel_alloc (bel_alloc (bel_alloc (bel_alloc (Below.refl _ _))))⟩
    · have := heap_alloc_last (w.alloc (.cells #[(.slice A0 xs.length cc), .int .i64 s.1, .int .i64 (badOf xs s)] 60)) (.cells #[.slice none 0 0, .int .i64 0, .int .i64 0] 60); rwa [s1] at this
    · have := heap_alloc_last ((w.alloc (.cells #[(.slice A0 xs.length cc), .int .i64 s.1, .int .i64 (badOf xs s)] 60)).alloc (.cells #[.slice none 0 0, .int .i64 0, .int .i64 0] 60)) (.cells #[.string ⟨#[]⟩, .int .i64 0, .int .i64 0, .int .i64 0, .int .i64 0, .slice none 0 0, .slice none 0 0] 29); rwa [s2] at this
    · have := heap_alloc_last (((w.alloc (.cells #[(.slice A0 xs.length cc), .int .i64 s.1, .int .i64 (badOf xs s)] 60)).alloc (.cells #[.slice none 0 0, .int .i64 0, .int .i64 0] 60)).alloc (.cells #[.string ⟨#[]⟩, .int .i64 0, .int .i64 0, .int .i64 0, .int .i64 0, .slice none 0 0, .slice none 0 0] 29)) (.cells #[.string ⟨#[]⟩, .int .i64 0, .int .i64 0, .int .i64 0, .int .i64 0, .slice none 0 0, .slice none 0 0] 29); rwa [s3] at this)
  clear hrr hl hend hof
  go_enter Tryd.func40, Tryd.ntmps40
  have HSa0 := Lib.hid HS0.out.1
  go_wp2_with (first
    | ((with_reducible refine rr_load w.heap.size 0 (.slice A0 xs.length cc) s.1 (badOf xs s) ?hx (rangeAt_block HSa0.out) ?_); (case hx => rfl)))
  refine (rword_any A0 cc xs s _ productW rfl _ (HL.out _ HS0.out.2.2.2.2) hkx hxm HOF.out).mono ?_
  rintro e w1 ⟨he, hb⟩
  subst he
  have HC1 := Lib.hid (HS0.out.call hb)
  have HCa1 := Lib.hid HC1.out.1
  have HS1 := Lib.hid (HC1.out.put (hd1 xs s).1 (badOf xs (hd1 xs s)))
  clear hb HS0
  have HSa1 := Lib.hid HS1.out.1
  go_wp2_with (first
    | ((with_reducible refine rr_put w.heap.size A0 xs.length cc (hd1 xs s).1 (badOf xs (hd1 xs s)) ?hx ?hy HCa1.out (H3 _ _) ?_); (case hx => rfl); (case hy => rfl))
    | ((with_reducible refine rr_load w.heap.size 0 (.slice A0 xs.length cc) (hd1 xs s).1 (badOf xs (hd1 xs s)) ?hx (rangeAt_block HSa1.out) ?_); (case hx => rfl)))
  refine (rtake_any A0 cc xs (hd1 xs s) 1 _ _ (HL.out _ HS1.out.2.2.2.2) i1 hxm HOF.out).mono ?_
  rintro e w2 ⟨he, hb⟩
  subst he
  have HC2 := Lib.hid (HS1.out.call hb)
  have HCa2 := Lib.hid HC2.out.1
  have hz2 := HC2.out.lt
  clear hb HS1
  go_wp2_with (first
    | ((with_reducible refine lx_alloc ?_); intro c9 H9; have HA := Lib.hid (HC2.out.alloc (.cells c9 58)); have HAa := Lib.hid HA.out.1; have HQ := Lib.hid (HA.out.put (hd2 xs s).1 (badOf xs (hd2 xs s))); have HLx := Lib.hid (show ((w2.alloc (.cells c9 58)).setRow w.heap.size (rrCells (.slice A0 xs.length cc) (hd2 xs s).1 (badOf xs (hd2 xs s))).toArray).heap[w2.heap.size]? = some (.cells c9 58 (0, 0)) from (setRow_other _ _ _ _ (by omega)).trans (heap_alloc_last w2 _)); have HQ2 := Lib.hid (HQ.out.far hz2 (lxCells (lxAt xs (hd1 xs s).1)).toArray); have cx : (((w2.alloc (.cells c9 58)).setRow w.heap.size (rrCells (.slice A0 xs.length cc) (hd2 xs s).1 (badOf xs (hd2 xs s))).toArray).setRow w2.heap.size (lxCells (lxAt xs (hd1 xs s).1)).toArray).cell? ⟨w2.heap.size, 1, none⟩ = some (.string (str (lxAt xs (hd1 xs s).1).text)) := (by rw [cell_of_row _ _ 1 _ _ (0, 0) (setRow_heap _ _ _ _ _ _ HLx.out)]; rfl); have q2 := HQ2.out.cell 0 (.string ⟨#[]⟩) rfl; have z2 := HQ2.out.frozen 0; have HS2 := Lib.hid (show OSt w _ (.slice A0 xs.length cc) (hd2 xs s).1 (badOf xs (hd2 xs s)) #[.string (str (lxAt xs (hd1 xs s).1).text), .int .i64 0, .int .i64 0, .int .i64 0, .int .i64 0, .slice none 0 0, .slice none 0 0] from HQ2.out.set 0 (.string (str (lxAt xs (hd1 xs s).1).text))); have HSa2 := Lib.hid HS2.out.1)
    | ((with_reducible refine rr_put w.heap.size A0 xs.length cc (hd2 xs s).1 (badOf xs (hd2 xs s)) ?hx ?hy HAa.out (H3 _ _) ?_); (case hx => rfl); (case hy => rfl))
    | ((with_reducible refine lx_put w2.heap.size (lxAt xs (hd1 xs s).1) ?hx ?hy HLx.out H9 ?_); (case hx => rfl); (case hy => rfl))
    | ((with_reducible refine rr_load w.heap.size 0 (.slice A0 xs.length cc) (hd2 xs s).1 (badOf xs (hd2 xs s)) ?hx (rangeAt_block HSa2.out) ?_); (case hx => rfl)))
  refine (ramount_any A0 cc xs (hd2 xs s) _ (HL.out _ HS2.out.2.2.2.2) i2 hxm HOF.out).mono ?_
  rintro e w3 ⟨he, hb⟩
  subst he
  have HC3 := Lib.hid (HS2.out.call hb)
  have HCa3 := Lib.hid HC3.out.1
  have HQ3 := Lib.hid (HC3.out.put (hd3 xs s).1 (badOf xs (hd3 xs s)))
  have q3 := HQ3.out.cell 1 (.int .i64 0) rfl
  have z3 := HQ3.out.frozen 1
  have HS3 := Lib.hid (show OSt w _ (.slice A0 xs.length cc) (hd3 xs s).1 (badOf xs (hd3 xs s)) #[.string (str (lxAt xs (hd1 xs s).1).text), .int .i64 (lxAt xs (hd2 xs s).1).num, .int .i64 0, .int .i64 0, .int .i64 0, .slice none 0 0, .slice none 0 0] from HQ3.out.set 1 (.int .i64 (lxAt xs (hd2 xs s).1).num))
  have hz3 := HC3.out.lt
  clear hb HS2
  have HSa3 := Lib.hid HS3.out.1
  go_wp2_with (first
    | ((with_reducible refine rr_put w.heap.size A0 xs.length cc (hd3 xs s).1 (badOf xs (hd3 xs s)) ?hx ?hy HCa3.out (H3 _ _) ?_); (case hx => rfl); (case hy => rfl))
    | ((with_reducible refine rr_load w.heap.size 0 (.slice A0 xs.length cc) (hd3 xs s).1 (badOf xs (hd3 xs s)) ?hx (rangeAt_block HSa3.out) ?_); (case hx => rfl)))
  refine (rword_any A0 cc xs (hd3 xs s) _ [120] rfl _ (HL.out _ HS3.out.2.2.2.2) i3 hxm HOF.out).mono ?_
  rintro e w4 ⟨he, hb⟩
  subst he
  have HC4 := Lib.hid (HS3.out.call hb)
  have HCa4 := Lib.hid HC4.out.1
  have HS4 := Lib.hid (HC4.out.put (hd4 xs s).1 (badOf xs (hd4 xs s)))
  clear hb HS3
  have HSa4 := Lib.hid HS4.out.1
  go_wp2_with (first
    | ((with_reducible refine rr_put w.heap.size A0 xs.length cc (hd4 xs s).1 (badOf xs (hd4 xs s)) ?hx ?hy HCa4.out (H3 _ _) ?_); (case hx => rfl); (case hy => rfl))
    | ((with_reducible refine rr_load w.heap.size 0 (.slice A0 xs.length cc) (hd4 xs s).1 (badOf xs (hd4 xs s)) ?hx (rangeAt_block HSa4.out) ?_); (case hx => rfl)))
  refine (ramount_any A0 cc xs (hd4 xs s) _ (HL.out _ HS4.out.2.2.2.2) i4 hxm HOF.out).mono ?_
  rintro e w5 ⟨he, hb⟩
  subst he
  have HC5 := Lib.hid (HS4.out.call hb)
  have HCa5 := Lib.hid HC5.out.1
  have HQ5 := Lib.hid (HC5.out.put (hd5 xs s).1 (badOf xs (hd5 xs s)))
  have q5 := HQ5.out.cell 2 (.int .i64 0) rfl
  have z5 := HQ5.out.frozen 2
  have HS5 := Lib.hid (show OSt w _ (.slice A0 xs.length cc) (hd5 xs s).1 (badOf xs (hd5 xs s)) #[.string (str (lxAt xs (hd1 xs s).1).text), .int .i64 (lxAt xs (hd2 xs s).1).num, .int .i64 (lxAt xs (hd4 xs s).1).num, .int .i64 0, .int .i64 0, .slice none 0 0, .slice none 0 0] from HQ5.out.set 2 (.int .i64 (lxAt xs (hd4 xs s).1).num))
  have hz5 := HC5.out.lt
  clear hb HS4
  have HSa5 := Lib.hid HS5.out.1
  go_wp2_with (first
    | ((with_reducible refine rr_put w.heap.size A0 xs.length cc (hd5 xs s).1 (badOf xs (hd5 xs s)) ?hx ?hy HCa5.out (H3 _ _) ?_); (case hx => rfl); (case hy => rfl))
    | ((with_reducible refine rr_load w.heap.size 0 (.slice A0 xs.length cc) (hd5 xs s).1 (badOf xs (hd5 xs s)) ?hx (rangeAt_block HSa5.out) ?_); (case hx => rfl)))
  refine (rword_any A0 cc xs (hd5 xs s) _ allowW rfl _ (HL.out _ HS5.out.2.2.2.2) i5 hxm HOF.out).mono ?_
  rintro e w6 ⟨he, hb⟩
  subst he
  have HC6 := Lib.hid (HS5.out.call hb)
  have HCa6 := Lib.hid HC6.out.1
  have HS6 := Lib.hid (HC6.out.put (hd6 xs s).1 (badOf xs (hd6 xs s)))
  clear hb HS5
  have HSa6 := Lib.hid HS6.out.1
  go_wp2_with (first
    | ((with_reducible refine rr_put w.heap.size A0 xs.length cc (hd6 xs s).1 (badOf xs (hd6 xs s)) ?hx ?hy HCa6.out (H3 _ _) ?_); (case hx => rfl); (case hy => rfl))
    | ((with_reducible refine rr_load w.heap.size 0 (.slice A0 xs.length cc) (hd6 xs s).1 (badOf xs (hd6 xs s)) ?hx (rangeAt_block HSa6.out) ?_); (case hx => rfl)))
  refine (ramount_any A0 cc xs (hd6 xs s) _ (HL.out _ HS6.out.2.2.2.2) i6 hxm HOF.out).mono ?_
  rintro e w7 ⟨he, hb⟩
  subst he
  have HC7 := Lib.hid (HS6.out.call hb)
  have HCa7 := Lib.hid HC7.out.1
  have HQ7 := Lib.hid (HC7.out.put (hd7 xs s).1 (badOf xs (hd7 xs s)))
  have q7 := HQ7.out.cell 3 (.int .i64 0) rfl
  have z7 := HQ7.out.frozen 3
  have HS7 := Lib.hid (show OSt w _ (.slice A0 xs.length cc) (hd7 xs s).1 (badOf xs (hd7 xs s)) #[.string (str (lxAt xs (hd1 xs s).1).text), .int .i64 (lxAt xs (hd2 xs s).1).num, .int .i64 (lxAt xs (hd4 xs s).1).num, .int .i64 (lxAt xs (hd6 xs s).1).num, .int .i64 0, .slice none 0 0, .slice none 0 0] from HQ7.out.set 3 (.int .i64 (lxAt xs (hd6 xs s).1).num))
  have hz7 := HC7.out.lt
  clear hb HS6
  have HSa7 := Lib.hid HS7.out.1
  go_wp2_with (first
    | ((with_reducible refine rr_put w.heap.size A0 xs.length cc (hd7 xs s).1 (badOf xs (hd7 xs s)) ?hx ?hy HCa7.out (H3 _ _) ?_); (case hx => rfl); (case hy => rfl))
    | ((with_reducible refine rr_load w.heap.size 0 (.slice A0 xs.length cc) (hd7 xs s).1 (badOf xs (hd7 xs s)) ?hx (rangeAt_block HSa7.out) ?_); (case hx => rfl)))
  refine (rword_any A0 cc xs (hd7 xs s) _ waneW rfl _ (HL.out _ HS7.out.2.2.2.2) i7 hxm HOF.out).mono ?_
  rintro e w8 ⟨he, hb⟩
  subst he
  have HC8 := Lib.hid (HS7.out.call hb)
  have HCa8 := Lib.hid HC8.out.1
  have HS8 := Lib.hid (HC8.out.put (hd8 xs s).1 (badOf xs (hd8 xs s)))
  clear hb HS7
  have HSa8 := Lib.hid HS8.out.1
  go_wp2_with (first
    | ((with_reducible refine rr_put w.heap.size A0 xs.length cc (hd8 xs s).1 (badOf xs (hd8 xs s)) ?hx ?hy HCa8.out (H3 _ _) ?_); (case hx => rfl); (case hy => rfl))
    | ((with_reducible refine rr_load w.heap.size 0 (.slice A0 xs.length cc) (hd8 xs s).1 (badOf xs (hd8 xs s)) ?hx (rangeAt_block HSa8.out) ?_); (case hx => rfl)))
  refine (ramount_any A0 cc xs (hd8 xs s) _ (HL.out _ HS8.out.2.2.2.2) i8 hxm HOF.out).mono ?_
  rintro e w9 ⟨he, hb⟩
  subst he
  have HC9 := Lib.hid (HS8.out.call hb)
  have HCa9 := Lib.hid HC9.out.1
  have HQ9 := Lib.hid (HC9.out.put (hd9 xs s).1 (badOf xs (hd9 xs s)))
  have q9 := HQ9.out.cell 4 (.int .i64 0) rfl
  have z9 := HQ9.out.frozen 4
  have HS9 := Lib.hid (show OSt w _ (.slice A0 xs.length cc) (hd9 xs s).1 (badOf xs (hd9 xs s)) #[.string (str (lxAt xs (hd1 xs s).1).text), .int .i64 (lxAt xs (hd2 xs s).1).num, .int .i64 (lxAt xs (hd4 xs s).1).num, .int .i64 (lxAt xs (hd6 xs s).1).num, .int .i64 (lxAt xs (hd8 xs s).1).num, .slice none 0 0, .slice none 0 0] from HQ9.out.set 4 (.int .i64 (lxAt xs (hd8 xs s).1).num))
  have hz9 := HC9.out.lt
  clear hb HS8
  have HSa9 := Lib.hid HS9.out.1
  go_wp2_with (first
    | ((with_reducible refine rr_put w.heap.size A0 xs.length cc (hd9 xs s).1 (badOf xs (hd9 xs s)) ?hx ?hy HCa9.out (H3 _ _) ?_); (case hx => rfl); (case hy => rfl))
    | ((with_reducible refine rr_load w.heap.size 0 (.slice A0 xs.length cc) (hd9 xs s).1 (badOf xs (hd9 xs s)) ?hx (rangeAt_block HSa9.out) ?_); (case hx => rfl)))
  refine (rmark_any A0 cc xs (hd9 xs s) _ [58] rfl _ (HL.out _ HS9.out.2.2.2.2) i9 hxm HOF.out).mono ?_
  rintro e w10 ⟨he, hb⟩
  subst he
  have HC10 := Lib.hid (HS9.out.call hb)
  have HCa10 := Lib.hid HC10.out.1
  have HS10 := Lib.hid (HC10.out.put (hd10 xs s).1 (badOf xs (hd10 xs s)))
  clear hb HS9
  have HSa10 := Lib.hid HS10.out.1
  go_wp2_with (first
    | ((with_reducible refine rr_put w.heap.size A0 xs.length cc (hd10 xs s).1 (badOf xs (hd10 xs s)) ?hx ?hy HCa10.out (H3 _ _) ?_); (case hx => rfl); (case hy => rfl)))
  simp only [Act.put, List.setIfInBounds_toArray, List.set_cons_zero, List.set_cons_succ]
  obtain ⟨R, hR⟩ : ∃ R, pairsS xs xs.length (hd10 xs s) [] [] = R := ⟨_, rfl⟩
  have hr2 : r.2 = nextS xs R.2.2 (3, [59]) := by rw [← HRR.out, prodS, hR]
  have hrv : r.2.2 = false → r.1 = ⟨(lxAt xs (hd1 xs s).1).text, (lxAt xs (hd2 xs s).1).num, (lxAt xs (hd4 xs s).1).num, (lxAt xs (hd6 xs s).1).num, (lxAt xs (hd8 xs s).1).num, R.1, R.2.1⟩ := by
    intro h
    rw [hr2] at h
    have h1 := nextS_bad h
    rw [← hR] at h1
    obtain ⟨e1, e2, e3, e4, e5⟩ := prodS_head (pairsS_bad h1)
    rw [← HRR.out, prodS, hR, e1, e2, e3, e4, e5]
  have HPS := Lib.hid hR
  have h10 : OSt w (w10.setRow w.heap.size (rrCells (.slice A0 xs.length cc) (hd10 xs s).1 (badOf xs (hd10 xs s))).toArray) (.slice A0 xs.length cc) (hd10 xs s).1 (badOf xs (hd10 xs s)) #[.string (str (lxAt xs (hd1 xs s).1).text), .int .i64 (lxAt xs (hd2 xs s).1).num, .int .i64 (lxAt xs (hd4 xs s).1).num, .int .i64 (lxAt xs (hd6 xs s).1).num, .int .i64 (lxAt xs (hd8 xs s).1).num, .slice none 0 0, .slice none 0 0] := HS10.out
  clear hR HRR HS10 HSa10
  generalize (lxAt xs (hd1 xs s).1).text = nm at hrv h10
  generalize (lxAt xs (hd2 xs s).1).num = a at hrv h10
  generalize (lxAt xs (hd4 xs s).1).num = b at hrv h10
  generalize (lxAt xs (hd6 xs s).1).num = c at hrv h10
  generalize (lxAt xs (hd8 xs s).1).num = d at hrv h10
  have HS10 := Lib.hid h10
  have HR2 := Lib.hid hr2
  have HRV := Lib.hid hrv
  clear h10 hr2 hrv
  go_loopw [6] (fun _ wr => OneRel w (.slice A0 xs.length cc) xs nm a b c d R wr) (fun _ wr => oneLeft xs w.heap.size wr)
  case atStart => exact ⟨hd10 xs s, [], [], .slice none 0 0, .slice none 0 0, i10, by simp, by simp, fun _ => ⟨by simp, by simp⟩, HS10.out, World.ownsRow_nil _ _ _ _, World.ownsRow_nil _ _ _ _, nofun, fun _ => ⟨xs.length, by omega, HPS.out⟩, fun h => by rw [← HPS.out]; exact pairsS_failed h _ _ _⟩
  case round =>
    obtain ⟨s1, ls, ps, v1, v2, hs1, hls, hps, hlf, hst, ho1, ho2, hap, hT, hF⟩ := hrel
    obtain ⟨A1, k1, rfl⟩ := ho1.form
    obtain ⟨A2, k2, rfl⟩ := ho2.form
    obtain ⟨r0, r1, r2⟩ := hst.rdr
    have HOL := Lib.hid (oneLeft_of hst HOF.out hs1)
    have HST := Lib.hid hst
    have HSTa := Lib.hid hst.1
    have HO1 := Lib.hid ho1
    have HO2 := Lib.hid ho2
    have HAP := Lib.hid hap
    have hz1 := hst.lt
    clear hst ho1 ho2 hap HS10 HPS
    cases hf : s1.2 with
    | true =>
      have hR2 := hF hf
      have hbo : 0 ≤ badOf xs s1 := by
        have hb : badOf xs s1 = (lxAt xs s1.1).off := by simp [badOf, hf]
        rw [hb]; exact HOF.out _ (List.mem_of_getElem? (lxAt_some hs1))
      have HRS := Lib.hid hR2
      have HRW := Lib.hid (show s1.2 = false → R = (ls, ps, s1) from fun h => by rw [hf] at h; cases h)
      clear hT hF hR2 hf hlf
      go_wp2_with fail

      have hall := HST.out.all
      obtain ⟨⟨ra0, ra1, ra2⟩, ⟨pa0, pa1, pa2, pa3, pa4, pa5, pa6⟩, ⟨_, _, _, _, _, _⟩, ⟨_, _, _, _, _, _, _, _, _, _, _, _, _, _⟩⟩ := hall
      obtain ⟨y, hy⟩ : ∃ y : Pr, y = ⟨nm, a, b, c, d, ls, ps⟩ := ⟨_, rfl⟩
      obtain ⟨sf, hsf⟩ : ∃ sf, nextS xs s1 (3, [59]) = sf := ⟨_, rfl⟩
      have HY := Lib.hid hy
      have HSF := Lib.hid hsf
      have hzf := HST.out.lt
      clear hy hsf
      go_region_with (go_at_call 62; refine (rmark_any A0 cc xs s1 _ [59] rfl _ (HL.out _ HST.out.drew.2.2.2.2) hs1 hxm HOF.out).mono ?_; rintro e wf ⟨he, hbf⟩; rw [HSF.out] at he; subst he; have HF := Lib.hid (HST.out.drew.call hbf); have HOf := Lib.hid (HO1.out.drew.call hbf); have HPf := Lib.hid (HO2.out.drew.call hbf); obtain ⟨⟨rb0, rb1, rb2⟩, ⟨pb0, pb1, pb2, pb3, pb4, pb5, pb6⟩, ⟨n10, n11, n12, n13, n14, n15⟩, ⟨n20, n21, n22, n23, n24, n25, n26, n27, n28, n29, n210, n211, n212, n213⟩⟩ := HF.out.all; clear hbf)
      all_goals
        go_wp2_with fail
        have e2 : r.2 = sf := by rw [HR2.out, HRS.out, HSF.out]
        have e1 : r.2.2 = false → y = r.1 := fun h => by
          have h1 : s1.2 = false := by rw [e2, ← HSF.out] at h; exact nextS_bad h
          have h3 := HRW.out h1
          rw [HRV.out h, HY.out, h3]
        rw [HY.out] at e1
        first
          | (have hfin := (((((((((((FinW.of HF.out).set1 0 ((.slice A0 xs.length cc)) #[(.slice A0 xs.length cc), .int .i64 0, .int .i64 0] rfl).set1 1 (.int .i64 sf.1) #[(.slice A0 xs.length cc), .int .i64 sf.1, .int .i64 0] rfl).set1 2 (.int .i64 (badOf xs sf)) #[(.slice A0 xs.length cc), .int .i64 sf.1, .int .i64 (badOf xs sf)] rfl).set2 0 (.string (str nm)) #[.string (str nm), .int .i64 0, .int .i64 0, .int .i64 0, .int .i64 0, .slice none 0 0, .slice none 0 0] rfl).set2 1 (.int .i64 a) #[.string (str nm), .int .i64 a, .int .i64 0, .int .i64 0, .int .i64 0, .slice none 0 0, .slice none 0 0] rfl).set2 2 (.int .i64 b) #[.string (str nm), .int .i64 a, .int .i64 b, .int .i64 0, .int .i64 0, .slice none 0 0, .slice none 0 0] rfl).set2 3 (.int .i64 c) #[.string (str nm), .int .i64 a, .int .i64 b, .int .i64 c, .int .i64 0, .slice none 0 0, .slice none 0 0] rfl).set2 4 (.int .i64 d) #[.string (str nm), .int .i64 a, .int .i64 b, .int .i64 c, .int .i64 d, .slice none 0 0, .slice none 0 0] rfl).set2 5 ((.slice A1 ls.length k1)) #[.string (str nm), .int .i64 a, .int .i64 b, .int .i64 c, .int .i64 d, (.slice A1 ls.length k1), .slice none 0 0] rfl).set2 6 ((.slice A2 ps.length k2)) #[.string (str nm), .int .i64 a, .int .i64 b, .int .i64 c, .int .i64 d, (.slice A1 ls.length k1), (.slice A2 ps.length k2)] rfl); exact bodyPost_ret (v := .tuple #[.agg #[(.slice A0 xs.length cc), .int .i64 sf.1, .int .i64 (badOf xs sf)], .agg (prCells ⟨nm, a, b, c, d, ls, ps⟩ (.slice A1 ls.length k1) (.slice A2 ps.length k2)).toArray]) (results_cells Tryd.results40 _ _ (w.heap.size + 1) (w.heap.size + 1 + 1) [(.slice A0 xs.length cc), .int .i64 sf.1, .int .i64 (badOf xs sf)] (prCells ⟨nm, a, b, c, d, ls, ps⟩ (.slice A1 ls.length k1) (.slice A2 ps.length k2)) rfl (rangeAt_block hfin.1) Tryd.underlying60 rfl rr_info rfl (rangeAt_block hfin.2.1) Tryd.underlying29 rfl pr_info) rfl ⟨_, _, _, by rw [e2], hfin.own HOf.out, hfin.own HPf.out, e1, hfin.2.2.2⟩)
          | (have hfin := (((((((((((FinW.of HF.out).set2 0 (.string (str nm)) #[.string (str nm), .int .i64 0, .int .i64 0, .int .i64 0, .int .i64 0, .slice none 0 0, .slice none 0 0] rfl).set2 1 (.int .i64 a) #[.string (str nm), .int .i64 a, .int .i64 0, .int .i64 0, .int .i64 0, .slice none 0 0, .slice none 0 0] rfl).set2 2 (.int .i64 b) #[.string (str nm), .int .i64 a, .int .i64 b, .int .i64 0, .int .i64 0, .slice none 0 0, .slice none 0 0] rfl).set2 3 (.int .i64 c) #[.string (str nm), .int .i64 a, .int .i64 b, .int .i64 c, .int .i64 0, .slice none 0 0, .slice none 0 0] rfl).set2 4 (.int .i64 d) #[.string (str nm), .int .i64 a, .int .i64 b, .int .i64 c, .int .i64 d, .slice none 0 0, .slice none 0 0] rfl).set2 5 ((.slice A1 ls.length k1)) #[.string (str nm), .int .i64 a, .int .i64 b, .int .i64 c, .int .i64 d, (.slice A1 ls.length k1), .slice none 0 0] rfl).set2 6 ((.slice A2 ps.length k2)) #[.string (str nm), .int .i64 a, .int .i64 b, .int .i64 c, .int .i64 d, (.slice A1 ls.length k1), (.slice A2 ps.length k2)] rfl).set1 0 ((.slice A0 xs.length cc)) #[(.slice A0 xs.length cc), .int .i64 0, .int .i64 0] rfl).set1 1 (.int .i64 sf.1) #[(.slice A0 xs.length cc), .int .i64 sf.1, .int .i64 0] rfl).set1 2 (.int .i64 (badOf xs sf)) #[(.slice A0 xs.length cc), .int .i64 sf.1, .int .i64 (badOf xs sf)] rfl); exact bodyPost_ret (v := .tuple #[.agg #[(.slice A0 xs.length cc), .int .i64 sf.1, .int .i64 (badOf xs sf)], .agg (prCells ⟨nm, a, b, c, d, ls, ps⟩ (.slice A1 ls.length k1) (.slice A2 ps.length k2)).toArray]) (results_cells Tryd.results40 _ _ (w.heap.size + 1) (w.heap.size + 1 + 1) [(.slice A0 xs.length cc), .int .i64 sf.1, .int .i64 (badOf xs sf)] (prCells ⟨nm, a, b, c, d, ls, ps⟩ (.slice A1 ls.length k1) (.slice A2 ps.length k2)) rfl (rangeAt_block hfin.1) Tryd.underlying60 rfl rr_info rfl (rangeAt_block hfin.2.1) Tryd.underlying29 rfl pr_info) rfl ⟨_, _, _, by rw [e2], hfin.own HOf.out, hfin.own HPf.out, e1, hfin.2.2.2⟩)
    | false =>
      obtain ⟨n, hn, hRn⟩ := hT hf
      obtain ⟨hl1, hl2⟩ := hlf hf
      have hbo : badOf xs s1 = -1 := by simp [badOf, hf]
      rw [hbo] at r2
      obtain ⟨n', rfl⟩ : ∃ n', n = n' + 1 := ⟨n - 1, by omega⟩
      rw [pairsS] at hRn
      obtain ⟨j1, hj1⟩ : ∃ j1, nextS xs s1 (2, []) = j1 := ⟨_, rfl⟩
      have jn1 : j1.1 < xs.length := by rw [← hj1]; exact nextS_in HEND.out (by decide) hs1
      obtain ⟨j2, hj2⟩ : ∃ j2, nextS xs j1 (3, [64]) = j2 := ⟨_, rfl⟩
      have jn2 : j2.1 < xs.length := by rw [← hj2]; exact nextS_in HEND.out (by decide) jn1
      obtain ⟨j3, hj3⟩ : ∃ j3, nextS xs j2 (2, []) = j3 := ⟨_, rfl⟩
      have jn3 : j3.1 < xs.length := by rw [← hj3]; exact nextS_in HEND.out (by decide) jn2
      have hps3 : pairS xs s1 = j3 := by rw [pairS, hj1, hj2, hj3]
      have hge : s1.1 ≤ j3.1 := by rw [← hps3]; exact pairS_ge xs s1
      have HVAL := Lib.hid (show j3.2 = false → pairL xs s1 = (lxAt xs s1.1).num ∧ pairP xs s1 = (lxAt xs j2.1).num from fun h => by have h9 := pairS_ok (xs := xs) (s := s1) (by rw [hps3]; exact h); rw [hj1, hj2] at h9; exact h9)
      obtain ⟨a1, ha1⟩ : ∃ a1, (lxAt xs s1.1).num = a1 := ⟨_, rfl⟩
      obtain ⟨a2, ha2⟩ : ∃ a2, (lxAt xs j2.1).num = a2 := ⟨_, rfl⟩
      rw [ha1, ha2] at HVAL
      rw [hps3] at hRn
      have HRN := Lib.hid hRn
      have HJ1 := Lib.hid hj1
      have HJ2 := Lib.hid hj2
      have HJ3 := Lib.hid hj3
      have HA1 := Lib.hid ha1
      have HA2 := Lib.hid ha2
      have HFF := Lib.hid hf
      obtain ⟨i0, hi0, hq0, hq1, hq2⟩ := info_parts info_int
      clear hT hF hlf hRn hj1 hj2 hj3 hps3 ha1 ha2 hf hbo
      go_wp2_with (first
        | ((with_reducible refine rr_load w.heap.size 0 (.slice A0 xs.length cc) s1.1 (badOf xs s1) ?hx (rangeAt_block HSTa.out) ?_); (case hx => rfl)))
      refine (ramount_any A0 cc xs s1 _ (HL.out _ HST.out.2.2.2.2) hs1 hxm HOF.out).mono ?_
      rintro e wA ⟨he, hb⟩
      rw [HJ1.out, HA1.out] at he
      subst he
      have HCA := Lib.hid (HST.out.call hb)
      have HCAa := Lib.hid HCA.out.1
      have HSA := Lib.hid (HCA.out.put j1.1 (badOf xs j1))
      have HSAa := Lib.hid HSA.out.1
      have HOA1 := Lib.hid ((HO1.out.call hb).row (show w.heap.size < w.heap.size + 4 by omega) (rrCells (.slice A0 xs.length cc) j1.1 (badOf xs j1)).toArray)
      have HOA2 := Lib.hid ((HO2.out.call hb).row (show w.heap.size < w.heap.size + 4 by omega) (rrCells (.slice A0 xs.length cc) j1.1 (badOf xs j1)).toArray)
      clear hb HST HSTa HO1 HO2
      clear r0 r1 r2
      go_wp2_with (first
        | ((with_reducible refine rr_put w.heap.size A0 xs.length cc j1.1 (badOf xs j1) ?hx ?hy HCAa.out (H3 _ _) ?_); (case hx => rfl); (case hy => rfl))
        | ((with_reducible refine rr_load w.heap.size 0 (.slice A0 xs.length cc) j1.1 (badOf xs j1) ?hx (rangeAt_block HSAa.out) ?_); (case hx => rfl)))
      refine (rmark_any A0 cc xs j1 _ [64] rfl _ (HL.out _ HSA.out.2.2.2.2) jn1 hxm HOF.out).mono ?_
      rintro e wB ⟨he, hb⟩
      rw [HJ2.out] at he
      subst he
      have HCB := Lib.hid (HSA.out.call hb)
      have HCBa := Lib.hid HCB.out.1
      have HSB := Lib.hid (HCB.out.put j2.1 (badOf xs j2))
      have HSBa := Lib.hid HSB.out.1
      have HOB1 := Lib.hid ((HOA1.out.call hb).row (show w.heap.size < w.heap.size + 4 by omega) (rrCells (.slice A0 xs.length cc) j2.1 (badOf xs j2)).toArray)
      have HOB2 := Lib.hid ((HOA2.out.call hb).row (show w.heap.size < w.heap.size + 4 by omega) (rrCells (.slice A0 xs.length cc) j2.1 (badOf xs j2)).toArray)
      clear hb HSA HSAa HOA1 HOA2
      go_wp2_with (first
        | ((with_reducible refine rr_put w.heap.size A0 xs.length cc j2.1 (badOf xs j2) ?hx ?hy HCBa.out (H3 _ _) ?_); (case hx => rfl); (case hy => rfl))
        | ((with_reducible refine rr_load w.heap.size 0 (.slice A0 xs.length cc) j2.1 (badOf xs j2) ?hx (rangeAt_block HSBa.out) ?_); (case hx => rfl)))
      refine (ramount_any A0 cc xs j2 _ (HL.out _ HSB.out.2.2.2.2) jn2 hxm HOF.out).mono ?_
      rintro e wC ⟨he, hb⟩
      rw [HJ3.out, HA2.out] at he
      subst he
      have HCC := Lib.hid (HSB.out.call hb)
      have HCCa := Lib.hid HCC.out.1
      have HSC := Lib.hid (HCC.out.put j3.1 (badOf xs j3))
      have HSCa := Lib.hid HSC.out.1
      have HOC1 := Lib.hid ((HOB1.out.call hb).row (show w.heap.size < w.heap.size + 4 by omega) (rrCells (.slice A0 xs.length cc) j3.1 (badOf xs j3)).toArray)
      have HOC2 := Lib.hid ((HOB2.out.call hb).row (show w.heap.size < w.heap.size + 4 by omega) (rrCells (.slice A0 xs.length cc) j3.1 (badOf xs j3)).toArray)
      clear hb HSB HSBa HOB1 HOB2
      obtain ⟨WC, hWC⟩ : ∃ WC, wC.setRow w.heap.size (rrCells (.slice A0 xs.length cc) j3.1 (badOf xs j3)).toArray = WC := ⟨_, rfl⟩
      rw [hWC] at HSC HOC1 HOC2
      have HWC := Lib.hid hWC
      have c5 := HSC.out.cell 5 (.slice A1 ls.length k1) rfl
      have hzC := HSC.out.lt
      obtain ⟨x3, hx3⟩ : ∃ x3, lxAt xs j3.1 = x3 := ⟨_, rfl⟩
      have HX3 := Lib.hid hx3
      have HXS := Lib.hid (show xs[j3.1]? = some x3 by rw [← hx3]; exact lxAt_some jn3)
      obtain ⟨_, _, A9, cp9, hA9, _, hcs9⟩ := HL.out _ HSC.out.2.2.2.2
      injection hA9 with e1 e2 e3
      subst e1 e3
      obtain ⟨lb, lo, hA0, _, _⟩ := hcs9 (by omega)
      subst hA0
      have HLX : Hid (∀ W, Below w.heap.size w W → W.cell? ⟨lb, lo + j3.1 * 4, none⟩ = some (.int .i64 x3.kind) ∧ W.cell? ⟨lb, lo + j3.1 * 4 + 1, none⟩ = some (.string (str x3.text))) := fun W hb => by
        obtain ⟨_, _, A8, cp8, hA8, _, hcs8⟩ := HL.out W hb
        injection hA8 with e1 e2 e3
        subst e1
        obtain ⟨lb', lo', hA7, _, hcell⟩ := hcs8 (by omega)
        injection hA7 with hA7
        injection hA7 with e4 e5
        subst e4 e5
        obtain ⟨q0, q1, _, _⟩ := lxs_at xs j3.1 x3 HXS.out
        have d1 := hcell _ _ q1
        rw [← Nat.add_assoc] at d1
        exact ⟨hcell _ _ q0, d1⟩
      have f0 : (0 : Int) ≤ (j3.1 : Int) := by omega
      have f1 : (j3.1 : Int) < (xs.length : Int) := by omega
      clear hx3 hWC hcs9
      by_cases hk3 : x3.kind = 3
      · cases htx : (x3.text == [44]) with
        | false =>
          have ht2 : ((str x3.text).toList == [44]) = false := by rw [toList_bts, bts_str]; exact htx
          have hok : okS xs j3 (3, [44]) = false := by rw [okS, lxFits, HX3.out, htx]; simp
          have hrn := HRN.out
          rw [hok, if_neg (by decide)] at hrn
          have HRS := Lib.hid (show R.2.2 = j3 by rw [← hrn])
          have HRW := Lib.hid (show j3.2 = false → R = (ls ++ [a1], ps ++ [a2], j3) from fun h => by rw [← hrn, (HVAL.out h).1, (HVAL.out h).2])
          clear hok hrn
          go_wp2_with (first
        | ((with_reducible refine rr_put w.heap.size (some ⟨lb, lo, none⟩) xs.length cc j3.1 (badOf xs j3) ?hx ?hy HCCa.out (H3 _ _) ?_); (case hx => rfl); (case hy => rfl); rw [HWC.out])
        | (at_builtin; refine wpList_append_lies _ (by rfl) (.tmp 67) (.tmp 69) 27 (by rfl) (w.heap.size + 4) 3 i0 _ 1 8 Tryd.underlying27 hi0 hq0 hq1 hq2 rfl (by omega) (.slice A1 ls.length k1) ls.length (ints ls) (by rfl) (HOC1.out.alloc _)
              ⟨WC.heap.size, 0, none⟩ 1 1 [.int .i64 a1] (by rfl) (by rfl) (World.news_of_block (cs := #[.int .i64 a1]) (t := 3) (fr := (0, 0)) (heap_alloc_last WC _)) (by intro u hu; rw [List.mem_singleton.1 hu]; rfl)
              (by omega) (by simp only [maxLen]; omega) (by omega) (by rw [World.size_alloc]; omega) _ rfl ?_; intro gg5 cap5 w5 hown hgrow hat hlt; obtain ⟨cz5, fz5⟩ := opush_held HSC.out HOC1.out hgrow (j := 5) rfl; obtain ⟨hs, ho, hq, hap⟩ := opush_row HSC.out HOC1.out HOC2.out HAP.out hown hgrow hat 5; have HSD := Lib.hid hs; have HOD1 := Lib.hid ho; have HOD2 := Lib.hid hq; have HAPD := Lib.hid hap; have c6 := hs.cell 6 (.slice A2 ps.length k2) rfl; have hzD : w.heap.size + 3 < w5.heap.size := (by have h9 := hs.lt; simpa [World.setCell] using h9); clear hs ho hq hap hown hgrow hat hlt)
        | (at_builtin; refine wpList_append_lies _ (by rfl) (.tmp 73) (.tmp 75) 27 (by rfl) (w.heap.size + 4) 3 i0 _ 1 8 Tryd.underlying27 hi0 hq0 hq1 hq2 rfl (by omega) (.slice A2 ps.length k2) ps.length (ints ps) (by rfl) (HOD2.out.alloc _)
              ⟨w5.heap.size, 0, none⟩ 1 1 [.int .i64 a2] (by rfl) (by rfl) (World.news_of_block (cs := #[.int .i64 a2]) (t := 3) (fr := (0, 0)) (by have h9 := heap_alloc_last (w5.setCell ⟨w.heap.size + 1 + 1 + 1, 5, none⟩ (.slice (some ⟨gg5, 0, none⟩) (ls.length + 1) cap5)) (.cells #[.int .i64 a2] 3); rwa [show (w5.setCell ⟨w.heap.size + 1 + 1 + 1, 5, none⟩ (.slice (some ⟨gg5, 0, none⟩) (ls.length + 1) cap5)).heap.size = w5.heap.size by simp [World.setCell]] at h9)) (by intro u hu; rw [List.mem_singleton.1 hu]; rfl)
              (by omega) (by simp only [maxLen]; omega) (by omega) (by rw [World.size_alloc, show (w5.setCell ⟨w.heap.size + 1 + 1 + 1, 5, none⟩ (.slice (some ⟨gg5, 0, none⟩) (ls.length + 1) cap5)).heap.size = w5.heap.size by simp [World.setCell]]; omega) _ rfl ?_; intro gg6 cap6 w6 hown hgrow hat hlt; obtain ⟨cz6, fz6⟩ := opush_held HSD.out HOD2.out hgrow (j := 6) rfl; obtain ⟨hs, ho, hq, hap⟩ := opush_row HSD.out HOD2.out HOD1.out HAPD.out.symm hown hgrow hat 6; have HSE := Lib.hid hs; have HSEa := Lib.hid hs.1; have HOE2 := Lib.hid ho; have HOE1 := Lib.hid hq; have HAPE := Lib.hid hap.symm; obtain ⟨ra0, ra1, ra2⟩ := hs.rdr; obtain ⟨dk, dt⟩ := HLX.out _ hs.2.2.2.2; have hzE := hs.lt; clear hs ho hq hap hown hgrow hat hlt))
          obtain ⟨WE, hWE⟩ : ∃ WE, w6.setCell ⟨w.heap.size + 1 + 1 + 1, 6, none⟩ (.slice (some ⟨gg6, 0, none⟩) (ps.length + 1) cap6) = WE := ⟨_, rfl⟩
          have HSX := Lib.hid (show OSt w WE (.slice (some ⟨lb, lo, none⟩) xs.length cc) j3.1 (badOf xs j3) #[.string (str nm), .int .i64 a, .int .i64 b, .int .i64 c, .int .i64 d, (.slice (some ⟨gg5, 0, none⟩) (ls.length + 1) cap5), (.slice (some ⟨gg6, 0, none⟩) (ps.length + 1) cap6)] by rw [← hWE]; exact HSE.out)
          have HOX1 := Lib.hid (show OwnsI WE (w.heap.size + 4) (.slice (some ⟨gg5, 0, none⟩) (ls.length + 1) cap5) (ls ++ [a1]) by rw [← hWE]; exact HOE1.out)
          have HOX2 := Lib.hid (show OwnsI WE (w.heap.size + 4) (.slice (some ⟨gg6, 0, none⟩) (ps.length + 1) cap6) (ps ++ [a2]) by rw [← hWE]; exact HOE2.out)
          rw [hWE]
          clear hWE HSE HSEa HOE1 HOE2 HSD HOD1 HOD2 ra0 ra1 ra2 dk dt hzE cz5 fz5 cz6 fz6 c5 c6 hzD HCCa HCC
          have hall := HSX.out.all
          obtain ⟨⟨ra0, ra1, ra2⟩, ⟨pa0, pa1, pa2, pa3, pa4, pa5, pa6⟩, ⟨_, _, _, _, _, _⟩, ⟨_, _, _, _, _, _, _, _, _, _, _, _, _, _⟩⟩ := hall
          obtain ⟨y, hy⟩ : ∃ y : Pr, y = ⟨nm, a, b, c, d, (ls ++ [a1]), (ps ++ [a2])⟩ := ⟨_, rfl⟩
          obtain ⟨sf, hsf⟩ : ∃ sf, nextS xs j3 (3, [59]) = sf := ⟨_, rfl⟩
          have HY := Lib.hid hy
          have HSF := Lib.hid hsf
          have hzf := HSX.out.lt
          clear hy hsf
          go_region_with (go_at_call 62; refine (rmark_any (some ⟨lb, lo, none⟩) cc xs j3 _ [59] rfl _ (HL.out _ HSX.out.drew.2.2.2.2) jn3 hxm HOF.out).mono ?_; rintro e wf ⟨he, hbf⟩; rw [HSF.out] at he; subst he; have HF := Lib.hid (HSX.out.drew.call hbf); have HOf := Lib.hid (HOX1.out.drew.call hbf); have HPf := Lib.hid (HOX2.out.drew.call hbf); obtain ⟨⟨rb0, rb1, rb2⟩, ⟨pb0, pb1, pb2, pb3, pb4, pb5, pb6⟩, ⟨n10, n11, n12, n13, n14, n15⟩, ⟨n20, n21, n22, n23, n24, n25, n26, n27, n28, n29, n210, n211, n212, n213⟩⟩ := HF.out.all; clear hbf)
          all_goals
            go_wp2_with fail
            have e2 : r.2 = sf := by rw [HR2.out, HRS.out, HSF.out]
            have e1 : r.2.2 = false → y = r.1 := fun h => by
              have h1 : j3.2 = false := by rw [e2, ← HSF.out] at h; exact nextS_bad h
              have h3 := HRW.out h1
              rw [HRV.out h, HY.out, h3]
            rw [HY.out] at e1
            first
              | (have hfin := (((((((((((FinW.of HF.out).set1 0 ((.slice (some ⟨lb, lo, none⟩) xs.length cc)) #[(.slice (some ⟨lb, lo, none⟩) xs.length cc), .int .i64 0, .int .i64 0] rfl).set1 1 (.int .i64 sf.1) #[(.slice (some ⟨lb, lo, none⟩) xs.length cc), .int .i64 sf.1, .int .i64 0] rfl).set1 2 (.int .i64 (badOf xs sf)) #[(.slice (some ⟨lb, lo, none⟩) xs.length cc), .int .i64 sf.1, .int .i64 (badOf xs sf)] rfl).set2 0 (.string (str nm)) #[.string (str nm), .int .i64 0, .int .i64 0, .int .i64 0, .int .i64 0, .slice none 0 0, .slice none 0 0] rfl).set2 1 (.int .i64 a) #[.string (str nm), .int .i64 a, .int .i64 0, .int .i64 0, .int .i64 0, .slice none 0 0, .slice none 0 0] rfl).set2 2 (.int .i64 b) #[.string (str nm), .int .i64 a, .int .i64 b, .int .i64 0, .int .i64 0, .slice none 0 0, .slice none 0 0] rfl).set2 3 (.int .i64 c) #[.string (str nm), .int .i64 a, .int .i64 b, .int .i64 c, .int .i64 0, .slice none 0 0, .slice none 0 0] rfl).set2 4 (.int .i64 d) #[.string (str nm), .int .i64 a, .int .i64 b, .int .i64 c, .int .i64 d, .slice none 0 0, .slice none 0 0] rfl).set2 5 ((.slice (some ⟨gg5, 0, none⟩) (ls.length + 1) cap5)) #[.string (str nm), .int .i64 a, .int .i64 b, .int .i64 c, .int .i64 d, (.slice (some ⟨gg5, 0, none⟩) (ls.length + 1) cap5), .slice none 0 0] rfl).set2 6 ((.slice (some ⟨gg6, 0, none⟩) (ps.length + 1) cap6)) #[.string (str nm), .int .i64 a, .int .i64 b, .int .i64 c, .int .i64 d, (.slice (some ⟨gg5, 0, none⟩) (ls.length + 1) cap5), (.slice (some ⟨gg6, 0, none⟩) (ps.length + 1) cap6)] rfl); exact bodyPost_ret (v := .tuple #[.agg #[(.slice (some ⟨lb, lo, none⟩) xs.length cc), .int .i64 sf.1, .int .i64 (badOf xs sf)], .agg (prCells ⟨nm, a, b, c, d, (ls ++ [a1]), (ps ++ [a2])⟩ (.slice (some ⟨gg5, 0, none⟩) (ls.length + 1) cap5) (.slice (some ⟨gg6, 0, none⟩) (ps.length + 1) cap6)).toArray]) (results_cells Tryd.results40 _ _ (w.heap.size + 1) (w.heap.size + 1 + 1) [(.slice (some ⟨lb, lo, none⟩) xs.length cc), .int .i64 sf.1, .int .i64 (badOf xs sf)] (prCells ⟨nm, a, b, c, d, (ls ++ [a1]), (ps ++ [a2])⟩ (.slice (some ⟨gg5, 0, none⟩) (ls.length + 1) cap5) (.slice (some ⟨gg6, 0, none⟩) (ps.length + 1) cap6)) rfl (rangeAt_block hfin.1) Tryd.underlying60 rfl rr_info rfl (rangeAt_block hfin.2.1) Tryd.underlying29 rfl pr_info) rfl ⟨_, _, _, by rw [e2], hfin.own HOf.out, hfin.own HPf.out, e1, hfin.2.2.2⟩)
              | (have hfin := (((((((((((FinW.of HF.out).set2 0 (.string (str nm)) #[.string (str nm), .int .i64 0, .int .i64 0, .int .i64 0, .int .i64 0, .slice none 0 0, .slice none 0 0] rfl).set2 1 (.int .i64 a) #[.string (str nm), .int .i64 a, .int .i64 0, .int .i64 0, .int .i64 0, .slice none 0 0, .slice none 0 0] rfl).set2 2 (.int .i64 b) #[.string (str nm), .int .i64 a, .int .i64 b, .int .i64 0, .int .i64 0, .slice none 0 0, .slice none 0 0] rfl).set2 3 (.int .i64 c) #[.string (str nm), .int .i64 a, .int .i64 b, .int .i64 c, .int .i64 0, .slice none 0 0, .slice none 0 0] rfl).set2 4 (.int .i64 d) #[.string (str nm), .int .i64 a, .int .i64 b, .int .i64 c, .int .i64 d, .slice none 0 0, .slice none 0 0] rfl).set2 5 ((.slice (some ⟨gg5, 0, none⟩) (ls.length + 1) cap5)) #[.string (str nm), .int .i64 a, .int .i64 b, .int .i64 c, .int .i64 d, (.slice (some ⟨gg5, 0, none⟩) (ls.length + 1) cap5), .slice none 0 0] rfl).set2 6 ((.slice (some ⟨gg6, 0, none⟩) (ps.length + 1) cap6)) #[.string (str nm), .int .i64 a, .int .i64 b, .int .i64 c, .int .i64 d, (.slice (some ⟨gg5, 0, none⟩) (ls.length + 1) cap5), (.slice (some ⟨gg6, 0, none⟩) (ps.length + 1) cap6)] rfl).set1 0 ((.slice (some ⟨lb, lo, none⟩) xs.length cc)) #[(.slice (some ⟨lb, lo, none⟩) xs.length cc), .int .i64 0, .int .i64 0] rfl).set1 1 (.int .i64 sf.1) #[(.slice (some ⟨lb, lo, none⟩) xs.length cc), .int .i64 sf.1, .int .i64 0] rfl).set1 2 (.int .i64 (badOf xs sf)) #[(.slice (some ⟨lb, lo, none⟩) xs.length cc), .int .i64 sf.1, .int .i64 (badOf xs sf)] rfl); exact bodyPost_ret (v := .tuple #[.agg #[(.slice (some ⟨lb, lo, none⟩) xs.length cc), .int .i64 sf.1, .int .i64 (badOf xs sf)], .agg (prCells ⟨nm, a, b, c, d, (ls ++ [a1]), (ps ++ [a2])⟩ (.slice (some ⟨gg5, 0, none⟩) (ls.length + 1) cap5) (.slice (some ⟨gg6, 0, none⟩) (ps.length + 1) cap6)).toArray]) (results_cells Tryd.results40 _ _ (w.heap.size + 1) (w.heap.size + 1 + 1) [(.slice (some ⟨lb, lo, none⟩) xs.length cc), .int .i64 sf.1, .int .i64 (badOf xs sf)] (prCells ⟨nm, a, b, c, d, (ls ++ [a1]), (ps ++ [a2])⟩ (.slice (some ⟨gg5, 0, none⟩) (ls.length + 1) cap5) (.slice (some ⟨gg6, 0, none⟩) (ps.length + 1) cap6)) rfl (rangeAt_block hfin.1) Tryd.underlying60 rfl rr_info rfl (rangeAt_block hfin.2.1) Tryd.underlying29 rfl pr_info) rfl ⟨_, _, _, by rw [e2], hfin.own HOf.out, hfin.own HPf.out, e1, hfin.2.2.2⟩)
        | true =>
          have ht2 : ((str x3.text).toList == [44]) = true := by rw [toList_bts, bts_str]; exact htx
          have hok : okS xs j3 (3, [44]) = !j3.2 := by rw [okS, lxFits, HX3.out, htx, hk3]; simp
          have HOKE := Lib.hid hok
          clear hok
          go_wp2_with (first
        | ((with_reducible refine rr_put w.heap.size (some ⟨lb, lo, none⟩) xs.length cc j3.1 (badOf xs j3) ?hx ?hy HCCa.out (H3 _ _) ?_); (case hx => rfl); (case hy => rfl); rw [HWC.out])
        | (at_builtin; refine wpList_append_lies _ (by rfl) (.tmp 67) (.tmp 69) 27 (by rfl) (w.heap.size + 4) 3 i0 _ 1 8 Tryd.underlying27 hi0 hq0 hq1 hq2 rfl (by omega) (.slice A1 ls.length k1) ls.length (ints ls) (by rfl) (HOC1.out.alloc _)
              ⟨WC.heap.size, 0, none⟩ 1 1 [.int .i64 a1] (by rfl) (by rfl) (World.news_of_block (cs := #[.int .i64 a1]) (t := 3) (fr := (0, 0)) (heap_alloc_last WC _)) (by intro u hu; rw [List.mem_singleton.1 hu]; rfl)
              (by omega) (by simp only [maxLen]; omega) (by omega) (by rw [World.size_alloc]; omega) _ rfl ?_; intro gg5 cap5 w5 hown hgrow hat hlt; obtain ⟨cz5, fz5⟩ := opush_held HSC.out HOC1.out hgrow (j := 5) rfl; obtain ⟨hs, ho, hq, hap⟩ := opush_row HSC.out HOC1.out HOC2.out HAP.out hown hgrow hat 5; have HSD := Lib.hid hs; have HOD1 := Lib.hid ho; have HOD2 := Lib.hid hq; have HAPD := Lib.hid hap; have c6 := hs.cell 6 (.slice A2 ps.length k2) rfl; have hzD : w.heap.size + 3 < w5.heap.size := (by have h9 := hs.lt; simpa [World.setCell] using h9); clear hs ho hq hap hown hgrow hat hlt)
        | (at_builtin; refine wpList_append_lies _ (by rfl) (.tmp 73) (.tmp 75) 27 (by rfl) (w.heap.size + 4) 3 i0 _ 1 8 Tryd.underlying27 hi0 hq0 hq1 hq2 rfl (by omega) (.slice A2 ps.length k2) ps.length (ints ps) (by rfl) (HOD2.out.alloc _)
              ⟨w5.heap.size, 0, none⟩ 1 1 [.int .i64 a2] (by rfl) (by rfl) (World.news_of_block (cs := #[.int .i64 a2]) (t := 3) (fr := (0, 0)) (by have h9 := heap_alloc_last (w5.setCell ⟨w.heap.size + 1 + 1 + 1, 5, none⟩ (.slice (some ⟨gg5, 0, none⟩) (ls.length + 1) cap5)) (.cells #[.int .i64 a2] 3); rwa [show (w5.setCell ⟨w.heap.size + 1 + 1 + 1, 5, none⟩ (.slice (some ⟨gg5, 0, none⟩) (ls.length + 1) cap5)).heap.size = w5.heap.size by simp [World.setCell]] at h9)) (by intro u hu; rw [List.mem_singleton.1 hu]; rfl)
              (by omega) (by simp only [maxLen]; omega) (by omega) (by rw [World.size_alloc, show (w5.setCell ⟨w.heap.size + 1 + 1 + 1, 5, none⟩ (.slice (some ⟨gg5, 0, none⟩) (ls.length + 1) cap5)).heap.size = w5.heap.size by simp [World.setCell]]; omega) _ rfl ?_; intro gg6 cap6 w6 hown hgrow hat hlt; obtain ⟨cz6, fz6⟩ := opush_held HSD.out HOD2.out hgrow (j := 6) rfl; obtain ⟨hs, ho, hq, hap⟩ := opush_row HSD.out HOD2.out HOD1.out HAPD.out.symm hown hgrow hat 6; have HSE := Lib.hid hs; have HSEa := Lib.hid hs.1; have HOE2 := Lib.hid ho; have HOE1 := Lib.hid hq; have HAPE := Lib.hid hap.symm; obtain ⟨ra0, ra1, ra2⟩ := hs.rdr; obtain ⟨dk, dt⟩ := HLX.out _ hs.2.2.2.2; have hzE := hs.lt; clear hs ho hq hap hown hgrow hat hlt))
          refine (rmark_any (some ⟨lb, lo, none⟩) cc xs j3 _ [44] rfl _ (HL.out _ HSE.out.2.2.2.2) jn3 hxm HOF.out).mono ?_
          rintro e wM ⟨he, hb⟩
          obtain ⟨j4, hj4⟩ : ∃ j4, nextS xs j3 (3, [44]) = j4 := ⟨_, rfl⟩
          rw [hj4] at he
          subst he
          have HCM := Lib.hid (HSE.out.call hb)
          have HCMa := Lib.hid HCM.out.1
          have HSM := Lib.hid (show OSt w _ (.slice (some ⟨lb, lo, none⟩) xs.length cc) j4.1 (badOf xs j4) #[.string (str nm), .int .i64 a, .int .i64 b, .int .i64 c, .int .i64 d, (.slice (some ⟨gg5, 0, none⟩) (ls.length + 1) cap5), (.slice (some ⟨gg6, 0, none⟩) (ps.length + 1) cap6)] from HCM.out.put j4.1 (badOf xs j4))
          have HOM1 := Lib.hid ((HOE1.out.call hb).row (show w.heap.size < w.heap.size + 4 by omega) (rrCells (.slice (some ⟨lb, lo, none⟩) xs.length cc) j4.1 (badOf xs j4)).toArray)
          have HOM2 := Lib.hid ((HOE2.out.call hb).row (show w.heap.size < w.heap.size + 4 by omega) (rrCells (.slice (some ⟨lb, lo, none⟩) xs.length cc) j4.1 (badOf xs j4)).toArray)
          have HJ4 := Lib.hid hj4
          clear hb hj4 HSE HSEa HOE1 HOE2 HSD HOD1 HOD2 ra0 ra1 ra2 dk dt hzE cz5 fz5 cz6 fz6 c5 c6 hzD HCCa HCC
          go_wp2_with (((with_reducible refine rr_put w.heap.size (some ⟨lb, lo, none⟩) xs.length cc j4.1 (badOf xs j4) ?hx ?hy HCMa.out (H3 _ _) ?_); (case hx => rfl); (case hy => rfl)); (try simp only [Act.put, List.setIfInBounds_toArray, List.set_cons_zero, List.set_cons_succ]))
          have hin4 : j4.1 < xs.length := by rw [← HJ4.out]; exact nextS_in HEND.out (by decide) jn3
          have hge4 : j3.1 ≤ j4.1 := by rw [← HJ4.out]; exact nextS_ge _ _ _
          have hok4 : j4.2 = false → okS xs j3 (3, [44]) = true ∧ j4 = (j3.1 + 1, false) ∧ j3.2 = false := fun h => by have h9 := HJ4.out; have hh := nextS_ok (xs := xs) (s := j3) (p := (3, [44])) (by rw [h9]; exact h); rw [h9] at hh; exact ⟨hh.1, hh.2.1, (okS_two hh.1).1⟩
          refine suff_of (P := OneRel w (.slice (some ⟨lb, lo, none⟩) xs.length cc) xs nm a b c d R (wM.setRow w.heap.size (rrCells (.slice (some ⟨lb, lo, none⟩) xs.length cc) j4.1 (badOf xs j4)).toArray) ∧ oneLeft xs w.heap.size (wM.setRow w.heap.size (rrCells (.slice (some ⟨lb, lo, none⟩) xs.length cc) j4.1 (badOf xs j4)).toArray) < oneLeft xs w.heap.size wr) ?hrn ?_
          case hrn =>
            refine ⟨⟨j4, ls ++ [a1], ps ++ [a2], _, _, hin4, ?_, ?_, ?_, HSM.out, HOM1.out, HOM2.out, HAPE.out, ?_, ?_⟩, ?_⟩
            · rw [List.length_append]; simp only [List.length_cons, List.length_nil]; omega
            · rw [List.length_append]; simp only [List.length_cons, List.length_nil]; omega
            · intro h
              have h4 := (hok4 h).2.1
              have h5 : j4.1 = j3.1 + 1 := by rw [h4]
              rw [List.length_append, List.length_append]; simp only [List.length_cons, List.length_nil]; omega
            · intro h
              obtain ⟨q1, q2, q3⟩ := hok4 h
              have hrn := HRN.out
              rw [if_pos q1, tryS, if_pos q1, (HVAL.out q3).1, (HVAL.out q3).2] at hrn
              exact ⟨n', by rw [q2]; simp only; omega, by rw [q2]; exact hrn⟩
            · intro h
              have h3 : j3.2 = true := by
                cases hq : j3.2 with
                | true => rfl
                | false =>
                  have h9 := HJ4.out
                  rw [nextS, HOKE.out, hq] at h9
                  rw [← h9] at h; cases h
              have hrn := HRN.out
              rw [okS_failed h3, if_neg (by decide)] at hrn
              rw [← hrn, ← HJ4.out, nextS_failed h3]
            · rw [HOL.out, HFF.out, oneLeft_of HSM.out HOF.out hin4]
              cases hq : j4.2 with
              | true => simp
              | false =>
                have h4 := (hok4 hq).2.1
                have h5 : j4.1 = j3.1 + 1 := by rw [h4]
                simp only [Bool.false_eq_true, if_false]; omega
          intro hrelN
          go_roundw
          case rel => exact hrelN.1
          case measure => exact hrelN.2
      · have hk4 : (x3.kind == 3) = false := beq_eq_false_iff_ne.2 hk3
        have hok : okS xs j3 (3, [44]) = false := by rw [okS, lxFits, HX3.out, hk4]; simp
        have hrn := HRN.out
        rw [hok, if_neg (by decide)] at hrn
        have HRS := Lib.hid (show R.2.2 = j3 by rw [← hrn])
        have HRW := Lib.hid (show j3.2 = false → R = (ls ++ [a1], ps ++ [a2], j3) from fun h => by rw [← hrn, (HVAL.out h).1, (HVAL.out h).2])
        clear hok hrn
        go_wp2_with (first
        | ((with_reducible refine rr_put w.heap.size (some ⟨lb, lo, none⟩) xs.length cc j3.1 (badOf xs j3) ?hx ?hy HCCa.out (H3 _ _) ?_); (case hx => rfl); (case hy => rfl); rw [HWC.out])
        | (at_builtin; refine wpList_append_lies _ (by rfl) (.tmp 67) (.tmp 69) 27 (by rfl) (w.heap.size + 4) 3 i0 _ 1 8 Tryd.underlying27 hi0 hq0 hq1 hq2 rfl (by omega) (.slice A1 ls.length k1) ls.length (ints ls) (by rfl) (HOC1.out.alloc _)
              ⟨WC.heap.size, 0, none⟩ 1 1 [.int .i64 a1] (by rfl) (by rfl) (World.news_of_block (cs := #[.int .i64 a1]) (t := 3) (fr := (0, 0)) (heap_alloc_last WC _)) (by intro u hu; rw [List.mem_singleton.1 hu]; rfl)
              (by omega) (by simp only [maxLen]; omega) (by omega) (by rw [World.size_alloc]; omega) _ rfl ?_; intro gg5 cap5 w5 hown hgrow hat hlt; obtain ⟨cz5, fz5⟩ := opush_held HSC.out HOC1.out hgrow (j := 5) rfl; obtain ⟨hs, ho, hq, hap⟩ := opush_row HSC.out HOC1.out HOC2.out HAP.out hown hgrow hat 5; have HSD := Lib.hid hs; have HOD1 := Lib.hid ho; have HOD2 := Lib.hid hq; have HAPD := Lib.hid hap; have c6 := hs.cell 6 (.slice A2 ps.length k2) rfl; have hzD : w.heap.size + 3 < w5.heap.size := (by have h9 := hs.lt; simpa [World.setCell] using h9); clear hs ho hq hap hown hgrow hat hlt)
        | (at_builtin; refine wpList_append_lies _ (by rfl) (.tmp 73) (.tmp 75) 27 (by rfl) (w.heap.size + 4) 3 i0 _ 1 8 Tryd.underlying27 hi0 hq0 hq1 hq2 rfl (by omega) (.slice A2 ps.length k2) ps.length (ints ps) (by rfl) (HOD2.out.alloc _)
              ⟨w5.heap.size, 0, none⟩ 1 1 [.int .i64 a2] (by rfl) (by rfl) (World.news_of_block (cs := #[.int .i64 a2]) (t := 3) (fr := (0, 0)) (by have h9 := heap_alloc_last (w5.setCell ⟨w.heap.size + 1 + 1 + 1, 5, none⟩ (.slice (some ⟨gg5, 0, none⟩) (ls.length + 1) cap5)) (.cells #[.int .i64 a2] 3); rwa [show (w5.setCell ⟨w.heap.size + 1 + 1 + 1, 5, none⟩ (.slice (some ⟨gg5, 0, none⟩) (ls.length + 1) cap5)).heap.size = w5.heap.size by simp [World.setCell]] at h9)) (by intro u hu; rw [List.mem_singleton.1 hu]; rfl)
              (by omega) (by simp only [maxLen]; omega) (by omega) (by rw [World.size_alloc, show (w5.setCell ⟨w.heap.size + 1 + 1 + 1, 5, none⟩ (.slice (some ⟨gg5, 0, none⟩) (ls.length + 1) cap5)).heap.size = w5.heap.size by simp [World.setCell]]; omega) _ rfl ?_; intro gg6 cap6 w6 hown hgrow hat hlt; obtain ⟨cz6, fz6⟩ := opush_held HSD.out HOD2.out hgrow (j := 6) rfl; obtain ⟨hs, ho, hq, hap⟩ := opush_row HSD.out HOD2.out HOD1.out HAPD.out.symm hown hgrow hat 6; have HSE := Lib.hid hs; have HSEa := Lib.hid hs.1; have HOE2 := Lib.hid ho; have HOE1 := Lib.hid hq; have HAPE := Lib.hid hap.symm; obtain ⟨ra0, ra1, ra2⟩ := hs.rdr; obtain ⟨dk, dt⟩ := HLX.out _ hs.2.2.2.2; have hzE := hs.lt; clear hs ho hq hap hown hgrow hat hlt))
        obtain ⟨WE, hWE⟩ : ∃ WE, w6.setCell ⟨w.heap.size + 1 + 1 + 1, 6, none⟩ (.slice (some ⟨gg6, 0, none⟩) (ps.length + 1) cap6) = WE := ⟨_, rfl⟩
        have HSX := Lib.hid (show OSt w WE (.slice (some ⟨lb, lo, none⟩) xs.length cc) j3.1 (badOf xs j3) #[.string (str nm), .int .i64 a, .int .i64 b, .int .i64 c, .int .i64 d, (.slice (some ⟨gg5, 0, none⟩) (ls.length + 1) cap5), (.slice (some ⟨gg6, 0, none⟩) (ps.length + 1) cap6)] by rw [← hWE]; exact HSE.out)
        have HOX1 := Lib.hid (show OwnsI WE (w.heap.size + 4) (.slice (some ⟨gg5, 0, none⟩) (ls.length + 1) cap5) (ls ++ [a1]) by rw [← hWE]; exact HOE1.out)
        have HOX2 := Lib.hid (show OwnsI WE (w.heap.size + 4) (.slice (some ⟨gg6, 0, none⟩) (ps.length + 1) cap6) (ps ++ [a2]) by rw [← hWE]; exact HOE2.out)
        rw [hWE]
        clear hWE HSE HSEa HOE1 HOE2 HSD HOD1 HOD2 ra0 ra1 ra2 dk dt hzE cz5 fz5 cz6 fz6 c5 c6 hzD HCCa HCC
        have hall := HSX.out.all
        obtain ⟨⟨ra0, ra1, ra2⟩, ⟨pa0, pa1, pa2, pa3, pa4, pa5, pa6⟩, ⟨_, _, _, _, _, _⟩, ⟨_, _, _, _, _, _, _, _, _, _, _, _, _, _⟩⟩ := hall
        obtain ⟨y, hy⟩ : ∃ y : Pr, y = ⟨nm, a, b, c, d, (ls ++ [a1]), (ps ++ [a2])⟩ := ⟨_, rfl⟩
        obtain ⟨sf, hsf⟩ : ∃ sf, nextS xs j3 (3, [59]) = sf := ⟨_, rfl⟩
        have HY := Lib.hid hy
        have HSF := Lib.hid hsf
        have hzf := HSX.out.lt
        clear hy hsf
        go_region_with (go_at_call 62; refine (rmark_any (some ⟨lb, lo, none⟩) cc xs j3 _ [59] rfl _ (HL.out _ HSX.out.drew.2.2.2.2) jn3 hxm HOF.out).mono ?_; rintro e wf ⟨he, hbf⟩; rw [HSF.out] at he; subst he; have HF := Lib.hid (HSX.out.drew.call hbf); have HOf := Lib.hid (HOX1.out.drew.call hbf); have HPf := Lib.hid (HOX2.out.drew.call hbf); obtain ⟨⟨rb0, rb1, rb2⟩, ⟨pb0, pb1, pb2, pb3, pb4, pb5, pb6⟩, ⟨n10, n11, n12, n13, n14, n15⟩, ⟨n20, n21, n22, n23, n24, n25, n26, n27, n28, n29, n210, n211, n212, n213⟩⟩ := HF.out.all; clear hbf)
        all_goals
          go_wp2_with fail
          have e2 : r.2 = sf := by rw [HR2.out, HRS.out, HSF.out]
          have e1 : r.2.2 = false → y = r.1 := fun h => by
            have h1 : j3.2 = false := by rw [e2, ← HSF.out] at h; exact nextS_bad h
            have h3 := HRW.out h1
            rw [HRV.out h, HY.out, h3]
          rw [HY.out] at e1
          first
            | (have hfin := (((((((((((FinW.of HF.out).set1 0 ((.slice (some ⟨lb, lo, none⟩) xs.length cc)) #[(.slice (some ⟨lb, lo, none⟩) xs.length cc), .int .i64 0, .int .i64 0] rfl).set1 1 (.int .i64 sf.1) #[(.slice (some ⟨lb, lo, none⟩) xs.length cc), .int .i64 sf.1, .int .i64 0] rfl).set1 2 (.int .i64 (badOf xs sf)) #[(.slice (some ⟨lb, lo, none⟩) xs.length cc), .int .i64 sf.1, .int .i64 (badOf xs sf)] rfl).set2 0 (.string (str nm)) #[.string (str nm), .int .i64 0, .int .i64 0, .int .i64 0, .int .i64 0, .slice none 0 0, .slice none 0 0] rfl).set2 1 (.int .i64 a) #[.string (str nm), .int .i64 a, .int .i64 0, .int .i64 0, .int .i64 0, .slice none 0 0, .slice none 0 0] rfl).set2 2 (.int .i64 b) #[.string (str nm), .int .i64 a, .int .i64 b, .int .i64 0, .int .i64 0, .slice none 0 0, .slice none 0 0] rfl).set2 3 (.int .i64 c) #[.string (str nm), .int .i64 a, .int .i64 b, .int .i64 c, .int .i64 0, .slice none 0 0, .slice none 0 0] rfl).set2 4 (.int .i64 d) #[.string (str nm), .int .i64 a, .int .i64 b, .int .i64 c, .int .i64 d, .slice none 0 0, .slice none 0 0] rfl).set2 5 ((.slice (some ⟨gg5, 0, none⟩) (ls.length + 1) cap5)) #[.string (str nm), .int .i64 a, .int .i64 b, .int .i64 c, .int .i64 d, (.slice (some ⟨gg5, 0, none⟩) (ls.length + 1) cap5), .slice none 0 0] rfl).set2 6 ((.slice (some ⟨gg6, 0, none⟩) (ps.length + 1) cap6)) #[.string (str nm), .int .i64 a, .int .i64 b, .int .i64 c, .int .i64 d, (.slice (some ⟨gg5, 0, none⟩) (ls.length + 1) cap5), (.slice (some ⟨gg6, 0, none⟩) (ps.length + 1) cap6)] rfl); exact bodyPost_ret (v := .tuple #[.agg #[(.slice (some ⟨lb, lo, none⟩) xs.length cc), .int .i64 sf.1, .int .i64 (badOf xs sf)], .agg (prCells ⟨nm, a, b, c, d, (ls ++ [a1]), (ps ++ [a2])⟩ (.slice (some ⟨gg5, 0, none⟩) (ls.length + 1) cap5) (.slice (some ⟨gg6, 0, none⟩) (ps.length + 1) cap6)).toArray]) (results_cells Tryd.results40 _ _ (w.heap.size + 1) (w.heap.size + 1 + 1) [(.slice (some ⟨lb, lo, none⟩) xs.length cc), .int .i64 sf.1, .int .i64 (badOf xs sf)] (prCells ⟨nm, a, b, c, d, (ls ++ [a1]), (ps ++ [a2])⟩ (.slice (some ⟨gg5, 0, none⟩) (ls.length + 1) cap5) (.slice (some ⟨gg6, 0, none⟩) (ps.length + 1) cap6)) rfl (rangeAt_block hfin.1) Tryd.underlying60 rfl rr_info rfl (rangeAt_block hfin.2.1) Tryd.underlying29 rfl pr_info) rfl ⟨_, _, _, by rw [e2], hfin.own HOf.out, hfin.own HPf.out, e1, hfin.2.2.2⟩)
            | (have hfin := (((((((((((FinW.of HF.out).set2 0 (.string (str nm)) #[.string (str nm), .int .i64 0, .int .i64 0, .int .i64 0, .int .i64 0, .slice none 0 0, .slice none 0 0] rfl).set2 1 (.int .i64 a) #[.string (str nm), .int .i64 a, .int .i64 0, .int .i64 0, .int .i64 0, .slice none 0 0, .slice none 0 0] rfl).set2 2 (.int .i64 b) #[.string (str nm), .int .i64 a, .int .i64 b, .int .i64 0, .int .i64 0, .slice none 0 0, .slice none 0 0] rfl).set2 3 (.int .i64 c) #[.string (str nm), .int .i64 a, .int .i64 b, .int .i64 c, .int .i64 0, .slice none 0 0, .slice none 0 0] rfl).set2 4 (.int .i64 d) #[.string (str nm), .int .i64 a, .int .i64 b, .int .i64 c, .int .i64 d, .slice none 0 0, .slice none 0 0] rfl).set2 5 ((.slice (some ⟨gg5, 0, none⟩) (ls.length + 1) cap5)) #[.string (str nm), .int .i64 a, .int .i64 b, .int .i64 c, .int .i64 d, (.slice (some ⟨gg5, 0, none⟩) (ls.length + 1) cap5), .slice none 0 0] rfl).set2 6 ((.slice (some ⟨gg6, 0, none⟩) (ps.length + 1) cap6)) #[.string (str nm), .int .i64 a, .int .i64 b, .int .i64 c, .int .i64 d, (.slice (some ⟨gg5, 0, none⟩) (ls.length + 1) cap5), (.slice (some ⟨gg6, 0, none⟩) (ps.length + 1) cap6)] rfl).set1 0 ((.slice (some ⟨lb, lo, none⟩) xs.length cc)) #[(.slice (some ⟨lb, lo, none⟩) xs.length cc), .int .i64 0, .int .i64 0] rfl).set1 1 (.int .i64 sf.1) #[(.slice (some ⟨lb, lo, none⟩) xs.length cc), .int .i64 sf.1, .int .i64 0] rfl).set1 2 (.int .i64 (badOf xs sf)) #[(.slice (some ⟨lb, lo, none⟩) xs.length cc), .int .i64 sf.1, .int .i64 (badOf xs sf)] rfl); exact bodyPost_ret (v := .tuple #[.agg #[(.slice (some ⟨lb, lo, none⟩) xs.length cc), .int .i64 sf.1, .int .i64 (badOf xs sf)], .agg (prCells ⟨nm, a, b, c, d, (ls ++ [a1]), (ps ++ [a2])⟩ (.slice (some ⟨gg5, 0, none⟩) (ls.length + 1) cap5) (.slice (some ⟨gg6, 0, none⟩) (ps.length + 1) cap6)).toArray]) (results_cells Tryd.results40 _ _ (w.heap.size + 1) (w.heap.size + 1 + 1) [(.slice (some ⟨lb, lo, none⟩) xs.length cc), .int .i64 sf.1, .int .i64 (badOf xs sf)] (prCells ⟨nm, a, b, c, d, (ls ++ [a1]), (ps ++ [a2])⟩ (.slice (some ⟨gg5, 0, none⟩) (ls.length + 1) cap5) (.slice (some ⟨gg6, 0, none⟩) (ps.length + 1) cap6)) rfl (rangeAt_block hfin.1) Tryd.underlying60 rfl rr_info rfl (rangeAt_block hfin.2.1) Tryd.underlying29 rfl pr_info) rfl ⟨_, _, _, by rw [e2], hfin.own HOf.out, hfin.own HPf.out, e1, hfin.2.2.2⟩)

end Go.Proofs.YtokgonpeolppnaaDoor
