/-
  The contracts of sawmillref21's small functions: Framed.
-/
import Derived.Test.YtbmcfodhjibooaaDoorPaN
namespace Go.Proofs.YtbmcfodhjibooaaDoor
open Go.RowKit Saw Go.Sort

set_option maxRecDepth 100000 in
set_option maxHeartbeats 1000000 in
theorem rFramed_any (r : Rc) (w : World) : Calls Tryd.prog 54 #[.agg #[.int .i64 r.xa, .int .i64 r.xb, .int .i64 r.ya, .int .i64 r.yb]] w (BoolB (frameP r) w) := by
  obtain ⟨a, b, c, d⟩ := r
  obtain ⟨q, hq⟩ : ∃ q, frameP ⟨a, b, c, d⟩ = q := ⟨_, rfl⟩
  rw [hq]
  unfold frameP at hq
  have HQ := Lib.hid hq
  clear hq
  go_enter Tryd.func54, Tryd.ntmps54
  go_wp2
  all_goals go_ret
  all_goals refine ⟨ret_bool ?_, by repeat (first | exact Below.refl _ _ | apply bel_alloc)⟩
  all_goals
    rw [← HQ.out]
    simp_all
    try omega

theorem spans_res {fn : Func} {p q r : Tmp} (h : fn.results = #[.cell p 23, .cell q 23, .cell r 23]) (tmps : Array Value) (W : World) (g1 g2 g3 : Nat) (x y z : Int × Int)
    (hp : tmps.getD p undef = .pointer (some ⟨g1, 0, none⟩)) (hq : tmps.getD q undef = .pointer (some ⟨g2, 0, none⟩)) (hr : tmps.getD r undef = .pointer (some ⟨g3, 0, none⟩))
    (h1 : W.rangeAt g1 0 [.int .i64 x.1, .int .i64 x.2]) (h2 : W.rangeAt g2 0 [.int .i64 y.1, .int .i64 y.2]) (h3 : W.rangeAt g3 0 [.int .i64 z.1, .int .i64 z.2]) :
    (results fn tmps).run Tryd.prog W = .ok (.tuple #[.agg #[.int .i64 x.1, .int .i64 x.2], .agg #[.int .i64 y.1, .int .i64 y.2], .agg #[.int .i64 z.1, .int .i64 z.2]]) W := by
  have hp' : tmps[p]?.getD undef = .pointer (some ⟨g1, 0, none⟩) := by simpa using hp
  have hq' : tmps[q]?.getD undef = .pointer (some ⟨g2, 0, none⟩) := by simpa using hq
  have hr' : tmps[r]?.getD undef = .pointer (some ⟨g3, 0, none⟩) := by simpa using hr
  have e1 := run_loadVar_mid W g1 0 23 _ _ h1 Tryd.underlying23 rfl sp_info
  have e2 := run_loadVar_mid W g2 0 23 _ _ h2 Tryd.underlying23 rfl sp_info
  have e3 := run_loadVar_mid W g3 0 23 _ _ h3 Tryd.underlying23 rfl sp_info
  simp [results, h, hp', hq', hr', asAddr, e1, e2, e3]

/-- A span's box is overwritten. -/
theorem sp_set {W : World} {g : Nat} {cs : Array Value} (h : W.heap[g]? = some (.cells cs 23 (0, 0))) (i : Nat) (v : Value) : (W.setCell ⟨g, i, none⟩ v).heap[g]? = some (.cells (cs.setIfInBounds i v) 23 (0, 0)) ∧ W.grownBy (W.setCell ⟨g, i, none⟩ v) (some g) := by
  refine ⟨?_, ⟨rfl, rfl, rfl, by simp [World.setCell], fun j _ hne => Below.heap_setCell _ _ _ _ (fun e => hne (by rw [e]))⟩⟩
  rw [setCell_eq_setRow W g i _ _ _ _ h, setRow_heap _ _ _ _ _ _ h]

theorem spans3 {w W : World} {n g1 g2 g3 : Nat} {z1 z2 z3 z4 z5 z6 : Value} (h1 : W.heap[g1]? = some (.cells #[z1, z2] 23 (0, 0))) (h2 : W.heap[g2]? = some (.cells #[z3, z4] 23 (0, 0))) (h3 : W.heap[g3]? = some (.cells #[z5, z6] 23 (0, 0))) (hb : Below n w W)
    (n12 : g1 ≠ g2) (n13 : g1 ≠ g3) (n23 : g2 ≠ g3) (m1 : n ≤ g1) (m2 : n ≤ g2) (m3 : n ≤ g3) (a b c d e f : Value) :
    ((((((W.setCell ⟨g1, 0, none⟩ a).setCell ⟨g1, 1, none⟩ b).setCell ⟨g2, 0, none⟩ c).setCell ⟨g2, 1, none⟩ d).setCell ⟨g3, 0, none⟩ e).setCell ⟨g3, 1, none⟩ f).heap[g1]? = some (.cells #[a, b] 23 (0, 0)) ∧
    ((((((W.setCell ⟨g1, 0, none⟩ a).setCell ⟨g1, 1, none⟩ b).setCell ⟨g2, 0, none⟩ c).setCell ⟨g2, 1, none⟩ d).setCell ⟨g3, 0, none⟩ e).setCell ⟨g3, 1, none⟩ f).heap[g2]? = some (.cells #[c, d] 23 (0, 0)) ∧
    ((((((W.setCell ⟨g1, 0, none⟩ a).setCell ⟨g1, 1, none⟩ b).setCell ⟨g2, 0, none⟩ c).setCell ⟨g2, 1, none⟩ d).setCell ⟨g3, 0, none⟩ e).setCell ⟨g3, 1, none⟩ f).heap[g3]? = some (.cells #[e, f] 23 (0, 0)) ∧
    Below n w ((((((W.setCell ⟨g1, 0, none⟩ a).setCell ⟨g1, 1, none⟩ b).setCell ⟨g2, 0, none⟩ c).setCell ⟨g2, 1, none⟩ d).setCell ⟨g3, 0, none⟩ e).setCell ⟨g3, 1, none⟩ f) := by
  obtain ⟨p1, k1⟩ := sp_set h1 0 a
  obtain ⟨p2, k2⟩ := sp_set p1 1 b
  have hA := gb_tr k1 k2
  have l1 := (Array.getElem?_eq_some_iff.1 h1).1
  have l2 := (Array.getElem?_eq_some_iff.1 h2).1
  have l3 := (Array.getElem?_eq_some_iff.1 h3).1
  have q2 := (hA.block g2 l2 (fun e => n12 (by injection e with e; exact e.symm))).trans h2
  have q3 := (hA.block g3 l3 (fun e => n13 (by injection e with e; exact e.symm))).trans h3
  obtain ⟨p3, k3⟩ := sp_set q2 0 c
  obtain ⟨p4, k4⟩ := sp_set p3 1 d
  have hB := gb_tr k3 k4
  have sA := hA.size
  have r1 := (hB.block g1 (by omega) (fun e => n12 (by injection e))).trans p2
  have r3 := (hB.block g3 (by omega) (fun e => n23 (by injection e with e; exact e.symm))).trans q3
  obtain ⟨p5, k5⟩ := sp_set r3 0 e
  obtain ⟨p6, k6⟩ := sp_set p5 1 f
  have hC := gb_tr k5 k6
  have sB := hB.size
  have t1 := (hC.block g1 (by omega) (fun e => n13 (by injection e))).trans r1
  have t2 := (hC.block g2 (by omega) (fun e => n23 (by injection e))).trans p4
  have hs := hb.size
  refine ⟨t1, t2, p6, ((hb.grown hA ?_ ?_).grown hB ?_ ?_).grown hC ?_ ?_⟩
  all_goals first | omega | exact fun k e => by injection e; omega

set_option maxRecDepth 100000 in
set_option maxHeartbeats 1000000 in
theorem rParts_any (a b at_ k : Int) (w : World) : Calls Tryd.prog 104 #[.agg #[.int .i64 a, .int .i64 b], .int .i64 at_, .int .i64 k] w fun e w' => e = .returned (.tuple #[.agg #[.int .i64 a, .int .i64 at_], .agg #[.int .i64 at_, .int .i64 (min (wrap64 (at_ + k)) b)], .agg #[.int .i64 (min (wrap64 (at_ + k)) b), .int .i64 b]]) ∧ Below w.heap.size w w' := by
  obtain ⟨q, hq⟩ : ∃ q, wrap64 (at_ + k) = q := ⟨_, rfl⟩
  obtain ⟨en, hen⟩ : ∃ en, min q b = en := ⟨_, rfl⟩
  rw [hq, hen]
  go_enter Tryd.func104, Tryd.ntmps104
  go_wp2_with fail
  obtain ⟨W0, hW0⟩ : ∃ W0, (((w.alloc (.cells #[.int .i64 a, .int .i64 b] 23)).alloc (.cells #[.int .i64 0, .int .i64 0] 23)).alloc (.cells #[.int .i64 0, .int .i64 0] 23)).alloc (.cells #[.int .i64 0, .int .i64 0] 23) = W0 := ⟨_, rfl⟩
  have h0 : W0.heap[w.heap.size]? = some (.cells #[.int .i64 a, .int .i64 b] 23 (0, 0)) := by rw [← hW0]; exact hpA (hpA (hpA (heap_alloc_last w _) _) _) _
  have h1 : W0.heap[w.heap.size + 1]? = some (.cells #[.int .i64 0, .int .i64 0] 23 (0, 0)) := by
    rw [← hW0]
    have h := heap_alloc_last (w.alloc (.cells #[.int .i64 a, .int .i64 b] 23)) (.cells #[.int .i64 0, .int .i64 0] 23)
    rw [World.size_alloc] at h
    exact hpA (hpA h _) _
  have h2 : W0.heap[w.heap.size + 1 + 1]? = some (.cells #[.int .i64 0, .int .i64 0] 23 (0, 0)) := by
    rw [← hW0]
    have h := heap_alloc_last ((w.alloc (.cells #[.int .i64 a, .int .i64 b] 23)).alloc (.cells #[.int .i64 0, .int .i64 0] 23)) (.cells #[.int .i64 0, .int .i64 0] 23)
    rw [World.size_alloc, World.size_alloc] at h
    exact hpA h _
  have h3 : W0.heap[w.heap.size + 1 + 1 + 1]? = some (.cells #[.int .i64 0, .int .i64 0] 23 (0, 0)) := by
    rw [← hW0]
    have h := heap_alloc_last (((w.alloc (.cells #[.int .i64 a, .int .i64 b] 23)).alloc (.cells #[.int .i64 0, .int .i64 0] 23)).alloc (.cells #[.int .i64 0, .int .i64 0] 23)) (.cells #[.int .i64 0, .int .i64 0] 23)
    rw [World.size_alloc, World.size_alloc, World.size_alloc] at h
    exact h
  have hb0 : Below w.heap.size w W0 := by rw [← hW0]; repeat (first | exact Below.refl _ _ | apply bel_alloc)
  rw [hW0]
  clear hW0
  obtain ⟨a0, a1⟩ := cells2 h0
  obtain ⟨b0, b1⟩ := cells2 h1
  obtain ⟨c0, c1⟩ := cells2 h2
  obtain ⟨d0, d1⟩ := cells2 h3
  have f1 := frz h1
  have f2 := frz h2
  have f3 := frz h3
  have H1 := Lib.hid h1
  have H2 := Lib.hid h2
  have H3 := Lib.hid h3
  have HB := Lib.hid hb0
  clear h0 h1 h2 h3 hb0
  go_region
  all_goals (try go_wp2_with fail)
  all_goals
    have hE := spans3 H1.out H2.out H3.out HB.out (by omega) (by omega) (by omega) (by omega) (by omega) (by omega) (.int .i64 a) (.int .i64 at_) (.int .i64 at_) (.int .i64 en) (.int .i64 en) (.int .i64 b)
    obtain ⟨W9, hW9⟩ : ∃ W9, (((((W0.setCell ⟨w.heap.size + 1, 0, none⟩ (.int .i64 a)).setCell ⟨w.heap.size + 1, 1, none⟩ (.int .i64 at_)).setCell ⟨w.heap.size + 1 + 1, 0, none⟩ (.int .i64 at_)).setCell ⟨w.heap.size + 1 + 1, 1, none⟩ (.int .i64 en)).setCell ⟨w.heap.size + 1 + 1 + 1, 0, none⟩ (.int .i64 en)).setCell ⟨w.heap.size + 1 + 1 + 1, 1, none⟩ (.int .i64 b) = W9 := ⟨_, rfl⟩
    rw [hW9] at hE ⊢
    clear hW9
    obtain ⟨e1, e2, e3, e4⟩ := hE
    exact bodyPost_ret (spans_res (W := W9.drew) (x := (a, at_)) (y := (at_, en)) (z := (en, b)) (g1 := w.heap.size + 1) (g2 := w.heap.size + 1 + 1) (g3 := w.heap.size + 1 + 1 + 1) Tryd.results104 _ rfl rfl rfl (rangeAt_block (show W9.drew.heap[w.heap.size + 1]? = _ from e1)) (rangeAt_block (show W9.drew.heap[w.heap.size + 1 + 1]? = _ from e2)) (rangeAt_block (show W9.drew.heap[w.heap.size + 1 + 1 + 1]? = _ from e3))) rfl ⟨rfl, ⟨e4.os, e4.tape, e4.output, e4.size, e4.block⟩⟩

end Go.Proofs.YtbmcfodhjibooaaDoor
