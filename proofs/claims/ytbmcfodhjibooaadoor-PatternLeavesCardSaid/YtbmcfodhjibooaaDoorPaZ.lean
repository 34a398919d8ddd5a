/-
  The reference's walker: node at a rip.
-/
import Derived.Test.YtbmcfodhjibooaaDoorPaY
import Derived.Deep.Cut
import Derived.Deep.RegionHeld3
namespace Saw
theorem walkR_fit {kerf : Int} {board : Rc → Int → Int} {f : Nat} {n : Nd} {ns : List Nd} {x : Plc} (h1 : n.kind = 2 ∨ n.kind = 3) (h2 : ¬ 64 < x.level) (h3 : n.pos ≤ lowP x.rect n.kind ∨ highP x.rect n.kind ≤ n.pos) : walkR kerf board (f + 1) (n :: ns) x = .inl 20 := by
  have hp : ripP n.kind = true := by unfold ripP; rw [Bool.or_eq_true, beq_iff_eq, beq_iff_eq]; exact h1
  have he : fullErr board n x = 20 := by
    have hn : nodeErr n x = 20 := by unfold nodeErr; rw [if_neg (by omega), if_neg h2, if_pos ⟨hp, h3⟩]
    unfold fullErr
    rw [hn, if_neg (by omega)]
  rw [walkR, he, if_pos (by decide)]
def ripGo2 (l1 : List Lf) (c1 : List Rc) (y : Rc) : Int ⊕ (List Nd × List Lf × List Rc) → Int ⊕ (List Nd × List Lf × List Rc)
  | .inl e => .inl e
  | .inr (ns2, l2, c2) => .inr (ns2, l1 ++ l2, y :: (c1 ++ c2))
def ripGo (F : List Nd → Int ⊕ (List Nd × List Lf × List Rc)) (y : Rc) : Int ⊕ (List Nd × List Lf × List Rc) → Int ⊕ (List Nd × List Lf × List Rc)
  | .inl e => .inl e
  | .inr (ns1, l1, c1) => ripGo2 l1 c1 y (F ns1)
theorem walkR_rip {kerf : Int} {board : Rc → Int → Int} {f : Nat} {n : Nd} {ns : List Nd} {x : Plc} (h1 : n.kind = 2 ∨ n.kind = 3) (h2 : ¬ 64 < x.level) (h3 : lowP x.rect n.kind < n.pos ∧ n.pos < highP x.rect n.kind) : nodeErr n x = 0 ∧ walkR kerf board (f + 1) (n :: ns) x =
      ripGo (fun m => walkR kerf board f m ⟨part2 x.rect n kerf, x.level + 1⟩) (partC x.rect n kerf) (walkR kerf board f ns ⟨part1 x.rect n, x.level + 1⟩) := by
  have hp : ripP n.kind = true := by unfold ripP; rw [Bool.or_eq_true, beq_iff_eq, beq_iff_eq]; exact h1
  have hn : nodeErr n x = 0 := by unfold nodeErr; rw [if_neg (by omega), if_neg h2, if_neg (by omega)]
  have he : fullErr board n x = 0 := by
    unfold fullErr
    rw [hn, if_neg (by omega)]
  refine ⟨hn, ?_⟩
  rw [walkR, he, if_neg (by decide), if_pos hp]
  cases walkR kerf board f ns ⟨part1 x.rect n, x.level + 1⟩ with
  | inl e => rfl
  | inr q =>
    obtain ⟨ns1, l1, c1⟩ := q
    simp only [ripGo]
    cases walkR kerf board f ns1 ⟨part2 x.rect n kerf, x.level + 1⟩ with
    | inl e => rfl
    | inr q => rfl
end Saw
namespace Go.Proofs.YtbmcfodhjibooaaDoor
open Go.RowKit Saw Go.Sort
def rcO (x : Rc) : Obj := .cells #[.int .i64 x.xa, .int .i64 x.xb, .int .i64 x.ya, .int .i64 x.yb] 25
/-- How memory stands at a rip. -/
structure RipSt (w W : World) (wb Bn B : Nat) (nv lv : Value) (ns : List Nd) (l : List Pr) (sized : Bool) (kerf : Int) (at_ : Nat) (av cv : Value) (accL : List Lf) (accC : List Rc) (N : Nat) (r : Rc) (k p : Int) (g8 g9 g10 : Nat) (x y z : Rc) : Prop where
  st : WkSt W wb Bn B nv lv ns l sized kerf at_ av cv accL accC
  to : WkTo w W wb av cv av cv
  hr : W.heap[N]? = some (rcO r)
  hn : W.heap[N + 1]? = some (.cells #[.int .i64 k, .int .i64 p] 64 (0, 0))
  h8 : W.heap[g8]? = some (rcO x)
  h9 : W.heap[g9]? = some (rcO y)
  h10 : W.heap[g10]? = some (rcO z)
  l8 : N + 1 < g8
  l9 : N + 1 < g9
  l10 : N + 1 < g10
  n1 : g8 ≠ g9
  n2 : g8 ≠ g10
  n3 : g9 ≠ g10
  hN : w.heap.size = N
  hB : Bn ≤ N
  ha : ∀ g, av.ownBlock = some g → g < N
  hc : ∀ g, cv.ownBlock = some g → g < N
theorem RipSt.s8 {w W : World} {wb Bn B : Nat} {nv lv : Value} {ns : List Nd} {l : List Pr} {sized : Bool} {kerf : Int} {at_ : Nat} {av cv : Value} {accL : List Lf} {accC : List Rc} {N : Nat} {r : Rc} {k p : Int} {g8 g9 g10 : Nat} {x y z : Rc} (h : RipSt w W wb Bn B nv lv ns l sized kerf at_ av cv accL accC N r k p g8 g9 g10 x y z) : g8 < W.heap.size := (Array.getElem?_eq_some_iff.1 h.h8).1
theorem RipSt.s9 {w W : World} {wb Bn B : Nat} {nv lv : Value} {ns : List Nd} {l : List Pr} {sized : Bool} {kerf : Int} {at_ : Nat} {av cv : Value} {accL : List Lf} {accC : List Rc} {N : Nat} {r : Rc} {k p : Int} {g8 g9 g10 : Nat} {x y z : Rc} (h : RipSt w W wb Bn B nv lv ns l sized kerf at_ av cv accL accC N r k p g8 g9 g10 x y z) : g9 < W.heap.size := (Array.getElem?_eq_some_iff.1 h.h9).1
theorem RipSt.s10 {w W : World} {wb Bn B : Nat} {nv lv : Value} {ns : List Nd} {l : List Pr} {sized : Bool} {kerf : Int} {at_ : Nat} {av cv : Value} {accL : List Lf} {accC : List Rc} {N : Nat} {r : Rc} {k p : Int} {g8 g9 g10 : Nat} {x y z : Rc} (h : RipSt w W wb Bn B nv lv ns l sized kerf at_ av cv accL accC N r k p g8 g9 g10 x y z) : g10 < W.heap.size := (Array.getElem?_eq_some_iff.1 h.h10).1
theorem RipSt.below {w W : World} {wb Bn B : Nat} {nv lv : Value} {ns : List Nd} {l : List Pr} {sized : Bool} {kerf : Int} {at_ : Nat} {av cv : Value} {accL : List Lf} {accC : List Rc} {N : Nat} {r : Rc} {k p : Int} {g8 g9 g10 : Nat} {x y z : Rc} {W5 : World} (h : RipSt w W wb Bn B nv lv ns l sized kerf at_ av cv accL accC N r k p g8 g9 g10 x y z) (hb : Below W.heap.size W W5) : RipSt w W5 wb Bn B nv lv ns l sized kerf at_ av cv accL accC N r k p g8 g9 g10 x y z := by
  have hN := (Array.getElem?_eq_some_iff.1 h.hn).1
  exact ⟨h.st.below hb, h.to.below hb, (hb.block _ (by omega)).trans h.hr, (hb.block _ hN).trans h.hn, (hb.block _ h.s8).trans h.h8, (hb.block _ h.s9).trans h.h9, (hb.block _ h.s10).trans h.h10, h.l8, h.l9, h.l10, h.n1, h.n2, h.n3, h.hN, h.hB, h.ha, h.hc⟩
theorem RipSt.mv {w W : World} {wb Bn B : Nat} {nv lv : Value} {ns : List Nd} {l : List Pr} {sized : Bool} {kerf : Int} {at_ : Nat} {av cv : Value} {accL : List Lf} {accC : List Rc} {N : Nat} {r : Rc} {k p : Int} {g8 g9 g10 : Nat} {x y z : Rc} (h : RipSt w W wb Bn B nv lv ns l sized kerf at_ av cv accL accC N r k p g8 g9 g10 x y z) (g i : Nat) (v : Value) (hg : N + 1 < g) : WkSt (W.setCell ⟨g, i, none⟩ v) wb Bn B nv lv ns l sized kerf at_ av cv accL accC ∧ WkTo w (W.setCell ⟨g, i, none⟩ v) wb av cv av cv ∧ (∀ j, j ≠ g → (W.setCell ⟨g, i, none⟩ v).heap[j]? = W.heap[j]?) := by
  have k1 := h.hB
  have k2 := h.hN
  refine ⟨h.st.gb (gb_setW W g i v) fun j e => ?_, h.to.gb (gb_setW W g i v) fun j e => ?_, fun j hj => Below.heap_setCell _ _ _ _ hj⟩
  · injection e with e
    subst e
    exact ⟨by omega, fun e => by have := h.ha g e; omega, fun e => by have := h.hc g e; omega⟩
  · injection e with e
    subst e
    exact .inr (.inl (by omega))
theorem RipSt.set8 {w W : World} {wb Bn B : Nat} {nv lv : Value} {ns : List Nd} {l : List Pr} {sized : Bool} {kerf : Int} {at_ : Nat} {av cv : Value} {accL : List Lf} {accC : List Rc} {N : Nat} {r : Rc} {k p : Int} {g8 g9 g10 : Nat} {x y z : Rc} (h : RipSt w W wb Bn B nv lv ns l sized kerf at_ av cv accL accC N r k p g8 g9 g10 x y z) (i : Nat) (v : Int) (x' : Rc) (hx : (#[.int .i64 x.xa, .int .i64 x.xb, .int .i64 x.ya, .int .i64 x.yb] : Array Value).setIfInBounds i (.int .i64 v) = #[.int .i64 x'.xa, .int .i64 x'.xb, .int .i64 x'.ya, .int .i64 x'.yb]) : RipSt w (W.setCell ⟨g8, i, none⟩ (.int .i64 v)) wb Bn B nv lv ns l sized kerf at_ av cv accL accC N r k p g8 g9 g10 x' y z := by
  obtain ⟨q1, q2, q3⟩ := h.mv g8 i (.int .i64 v) h.l8
  have k8 := h.l8
  have k9 := h.l9
  have k10 := h.l10
  exact ⟨q1, q2, (q3 _ (by omega)).trans h.hr, (q3 _ (by omega)).trans h.hn, (by rw [setCell_eq_setRow W g8 i _ _ _ _ (show W.heap[g8]? = some (.cells #[.int .i64 x.xa, .int .i64 x.xb, .int .i64 x.ya, .int .i64 x.yb] 25 (0, 0)) from h.h8), setRow_heap _ _ _ _ _ _ h.h8, hx]; rfl), (q3 _ h.n1.symm).trans h.h9, (q3 _ h.n2.symm).trans h.h10, h.l8, h.l9, h.l10, h.n1, h.n2, h.n3, h.hN, h.hB, h.ha, h.hc⟩
theorem RipSt.set9 {w W : World} {wb Bn B : Nat} {nv lv : Value} {ns : List Nd} {l : List Pr} {sized : Bool} {kerf : Int} {at_ : Nat} {av cv : Value} {accL : List Lf} {accC : List Rc} {N : Nat} {r : Rc} {k p : Int} {g8 g9 g10 : Nat} {x y z : Rc} (h : RipSt w W wb Bn B nv lv ns l sized kerf at_ av cv accL accC N r k p g8 g9 g10 x y z) (i : Nat) (v : Int) (x' : Rc) (hx : (#[.int .i64 y.xa, .int .i64 y.xb, .int .i64 y.ya, .int .i64 y.yb] : Array Value).setIfInBounds i (.int .i64 v) = #[.int .i64 x'.xa, .int .i64 x'.xb, .int .i64 x'.ya, .int .i64 x'.yb]) : RipSt w (W.setCell ⟨g9, i, none⟩ (.int .i64 v)) wb Bn B nv lv ns l sized kerf at_ av cv accL accC N r k p g8 g9 g10 x x' z := by
  obtain ⟨q1, q2, q3⟩ := h.mv g9 i (.int .i64 v) h.l9
  have k8 := h.l8
  have k9 := h.l9
  have k10 := h.l10
  exact ⟨q1, q2, (q3 _ (by omega)).trans h.hr, (q3 _ (by omega)).trans h.hn, (q3 _ h.n1).trans h.h8, (by rw [setCell_eq_setRow W g9 i _ _ _ _ (show W.heap[g9]? = some (.cells #[.int .i64 y.xa, .int .i64 y.xb, .int .i64 y.ya, .int .i64 y.yb] 25 (0, 0)) from h.h9), setRow_heap _ _ _ _ _ _ h.h9, hx]; rfl), (q3 _ h.n3.symm).trans h.h10, h.l8, h.l9, h.l10, h.n1, h.n2, h.n3, h.hN, h.hB, h.ha, h.hc⟩
theorem RipSt.set10 {w W : World} {wb Bn B : Nat} {nv lv : Value} {ns : List Nd} {l : List Pr} {sized : Bool} {kerf : Int} {at_ : Nat} {av cv : Value} {accL : List Lf} {accC : List Rc} {N : Nat} {r : Rc} {k p : Int} {g8 g9 g10 : Nat} {x y z : Rc} (h : RipSt w W wb Bn B nv lv ns l sized kerf at_ av cv accL accC N r k p g8 g9 g10 x y z) (i : Nat) (v : Int) (x' : Rc) (hx : (#[.int .i64 z.xa, .int .i64 z.xb, .int .i64 z.ya, .int .i64 z.yb] : Array Value).setIfInBounds i (.int .i64 v) = #[.int .i64 x'.xa, .int .i64 x'.xb, .int .i64 x'.ya, .int .i64 x'.yb]) : RipSt w (W.setCell ⟨g10, i, none⟩ (.int .i64 v)) wb Bn B nv lv ns l sized kerf at_ av cv accL accC N r k p g8 g9 g10 x y x' := by
  obtain ⟨q1, q2, q3⟩ := h.mv g10 i (.int .i64 v) h.l10
  have k8 := h.l8
  have k9 := h.l9
  have k10 := h.l10
  exact ⟨q1, q2, (q3 _ (by omega)).trans h.hr, (q3 _ (by omega)).trans h.hn, (q3 _ h.n2).trans h.h8, (q3 _ h.n3).trans h.h9, (by rw [setCell_eq_setRow W g10 i _ _ _ _ (show W.heap[g10]? = some (.cells #[.int .i64 z.xa, .int .i64 z.xb, .int .i64 z.ya, .int .i64 z.yb] 25 (0, 0)) from h.h10), setRow_heap _ _ _ _ _ _ h.h10, hx]; rfl), h.l8, h.l9, h.l10, h.n1, h.n2, h.n3, h.hN, h.hB, h.ha, h.hc⟩
theorem RipSt.parts2 {w W : World} {wb Bn B : Nat} {nv lv : Value} {ns : List Nd} {l : List Pr} {sized : Bool} {kerf : Int} {at_ : Nat} {av cv : Value} {accL : List Lf} {accC : List Rc} {N : Nat} {r : Rc} {k p : Int} {g8 g9 g10 : Nat} {x y z : Rc} (h : RipSt w W wb Bn B nv lv ns l sized kerf at_ av cv accL accC N r k p g8 g9 g10 r r r) (hk : k = 2) (q : Int) (hq : min (wrap64 (p + kerf)) r.xb = q) : RipSt w ((((((W.setCell ⟨g8, 0, none⟩ (.int .i64 r.xa)).setCell ⟨g8, 1, none⟩ (.int .i64 p)).setCell ⟨g9, 0, none⟩ (.int .i64 p)).setCell ⟨g9, 1, none⟩ (.int .i64 q)).setCell ⟨g10, 0, none⟩ (.int .i64 q)).setCell ⟨g10, 1, none⟩ (.int .i64 r.xb)) wb Bn B nv lv ns l sized kerf at_ av cv accL accC N r k p g8 g9 g10 (part1 r ⟨k, p⟩) (partC r ⟨k, p⟩ kerf) (part2 r ⟨k, p⟩ kerf) := by
  subst hk
  have h1 : part1 r ⟨2, p⟩ = ⟨r.xa, p, r.ya, r.yb⟩ := rfl
  have he : endP r ⟨2, p⟩ kerf = q := by rw [endP, ← hq, IntWalk.i64_left]; rfl
  have h2 : partC r ⟨2, p⟩ kerf = ⟨p, q, r.ya, r.yb⟩ := by rw [partC, he]; rfl
  have h3 : part2 r ⟨2, p⟩ kerf = ⟨q, r.xb, r.ya, r.yb⟩ := by rw [part2, he]; rfl
  rw [h1, h2, h3]
  exact (((((h.set8 0 _ ⟨r.xa, r.xb, r.ya, r.yb⟩ rfl).set8 1 _ ⟨r.xa, p, r.ya, r.yb⟩ rfl).set9 0 _ ⟨p, r.xb, r.ya, r.yb⟩ rfl).set9 1 _ ⟨p, q, r.ya, r.yb⟩ rfl).set10 0 _ ⟨q, r.xb, r.ya, r.yb⟩ rfl).set10 1 _ ⟨q, r.xb, r.ya, r.yb⟩ rfl
theorem RipSt.parts3 {w W : World} {wb Bn B : Nat} {nv lv : Value} {ns : List Nd} {l : List Pr} {sized : Bool} {kerf : Int} {at_ : Nat} {av cv : Value} {accL : List Lf} {accC : List Rc} {N : Nat} {r : Rc} {k p : Int} {g8 g9 g10 : Nat} {x y z : Rc} (h : RipSt w W wb Bn B nv lv ns l sized kerf at_ av cv accL accC N r k p g8 g9 g10 r r r) (hk : k = 3) (q : Int) (hq : min (wrap64 (p + kerf)) r.yb = q) : RipSt w ((((((W.setCell ⟨g8, 2, none⟩ (.int .i64 r.ya)).setCell ⟨g8, 3, none⟩ (.int .i64 p)).setCell ⟨g9, 2, none⟩ (.int .i64 p)).setCell ⟨g9, 3, none⟩ (.int .i64 q)).setCell ⟨g10, 2, none⟩ (.int .i64 q)).setCell ⟨g10, 3, none⟩ (.int .i64 r.yb)) wb Bn B nv lv ns l sized kerf at_ av cv accL accC N r k p g8 g9 g10 (part1 r ⟨k, p⟩) (partC r ⟨k, p⟩ kerf) (part2 r ⟨k, p⟩ kerf) := by
  subst hk
  have h1 : part1 r ⟨3, p⟩ = ⟨r.xa, r.xb, r.ya, p⟩ := rfl
  have he : endP r ⟨3, p⟩ kerf = q := by rw [endP, ← hq, IntWalk.i64_left]; rfl
  have h2 : partC r ⟨3, p⟩ kerf = ⟨r.xa, r.xb, p, q⟩ := by rw [partC, he]; rfl
  have h3 : part2 r ⟨3, p⟩ kerf = ⟨r.xa, r.xb, q, r.yb⟩ := by rw [part2, he]; rfl
  rw [h1, h2, h3]
  exact (((((h.set8 2 _ ⟨r.xa, r.xb, r.ya, r.yb⟩ rfl).set8 3 _ ⟨r.xa, r.xb, r.ya, p⟩ rfl).set9 2 _ ⟨r.xa, r.xb, p, r.yb⟩ rfl).set9 3 _ ⟨r.xa, r.xb, p, q⟩ rfl).set10 2 _ ⟨r.xa, r.xb, q, r.yb⟩ rfl).set10 3 _ ⟨r.xa, r.xb, q, r.yb⟩ rfl
theorem keepA {W : World} {N : Nat} {o : Obj} {v0 v1 v2 v3 : Value} (h : W.cell? ⟨N, 0, none⟩ = some v0 ∧ W.cell? ⟨N, 1, none⟩ = some v1 ∧ W.cell? ⟨N, 2, none⟩ = some v2 ∧ W.cell? ⟨N, 3, none⟩ = some v3) :
    (W.alloc o).cell? ⟨N, 0, none⟩ = some v0 ∧ (W.alloc o).cell? ⟨N, 1, none⟩ = some v1 ∧ (W.alloc o).cell? ⟨N, 2, none⟩ = some v2 ∧ (W.alloc o).cell? ⟨N, 3, none⟩ = some v3 := by
  obtain ⟨h0, h1, h2, h3⟩ := h
  exact ⟨(World.cell?_alloc_some W _ o (by rw [h0]; rfl)).trans h0, (World.cell?_alloc_some W _ o (by rw [h1]; rfl)).trans h1, (World.cell?_alloc_some W _ o (by rw [h2]; rfl)).trans h2, (World.cell?_alloc_some W _ o (by rw [h3]; rfl)).trans h3⟩
theorem keep4 {W : World} {N wb g i i0 i1 : Nat} {v v0 v1 v2 v3 : Value} (h : W.cell? ⟨N, i0, none⟩ = some v0 ∧ W.cell? ⟨N, i1, none⟩ = some v1 ∧ W.cell? ⟨N + 1, 1, none⟩ = some v2 ∧ W.cell? ⟨wb, 3, none⟩ = some v3) (hg : g ≠ N ∧ g ≠ N + 1 ∧ g ≠ wb) :
    (W.setCell ⟨g, i, none⟩ v).cell? ⟨N, i0, none⟩ = some v0 ∧ (W.setCell ⟨g, i, none⟩ v).cell? ⟨N, i1, none⟩ = some v1 ∧ (W.setCell ⟨g, i, none⟩ v).cell? ⟨N + 1, 1, none⟩ = some v2 ∧ (W.setCell ⟨g, i, none⟩ v).cell? ⟨wb, 3, none⟩ = some v3 := by
  obtain ⟨g1, g2, g3⟩ := hg
  rw [World.cell?_setCell_far W ⟨g, i, none⟩ ⟨N, i0, none⟩ v g1, World.cell?_setCell_far W ⟨g, i, none⟩ ⟨N, i1, none⟩ v g1, World.cell?_setCell_far W ⟨g, i, none⟩ ⟨N + 1, 1, none⟩ v g2, World.cell?_setCell_far W ⟨g, i, none⟩ ⟨wb, 3, none⟩ v g3]
  exact h
theorem keepD {W : World} {N : Nat} {v0 v1 v2 v3 : Value} (h : W.cell? ⟨N, 0, none⟩ = some v0 ∧ W.cell? ⟨N, 1, none⟩ = some v1 ∧ W.cell? ⟨N, 2, none⟩ = some v2 ∧ W.cell? ⟨N, 3, none⟩ = some v3) :
    W.drew.cell? ⟨N, 0, none⟩ = some v0 ∧ W.drew.cell? ⟨N, 1, none⟩ = some v1 ∧ W.drew.cell? ⟨N, 2, none⟩ = some v2 ∧ W.drew.cell? ⟨N, 3, none⟩ = some v3 := h
theorem rip_st {w W2 : World} {wb Bn B : Nat} {nv lv : Value} {ns : List Nd} {l : List Pr} {sized : Bool} {kerf : Int} {at_ : Nat} {av cv : Value} {accL : List Lf} {accC : List Rc} {N : Nat} {r : Rc} {k p : Int} (h0 : WkSt W2 wb Bn B nv lv ns l sized kerf at_ av cv accL accC) (h1 : WkTo w W2 wb av cv av cv) (hr : W2.heap[N]? = some (rcO r)) (hn : W2.heap[N + 1]? = some (.cells #[.int .i64 k, .int .i64 p] 64 (0, 0))) (hN : w.heap.size = N) (hB : Bn ≤ N) (hz : W2.heap.size = N + 1 + 1)
    (ha : ∀ g, av.ownBlock = some g → g < N) (hc : ∀ g, cv.ownBlock = some g → g < N) (a b c : Nat) (h : (a = W2.heap.size ∨ a = W2.heap.size + 1 ∨ a = W2.heap.size + 1 + 1) ∧ (b = W2.heap.size ∨ b = W2.heap.size + 1 ∨ b = W2.heap.size + 1 + 1) ∧ (c = W2.heap.size ∨ c = W2.heap.size + 1 ∨ c = W2.heap.size + 1 + 1) ∧ a ≠ b ∧ a ≠ c ∧ b ≠ c) :
    RipSt w (((W2.alloc (.cells #[.int .i64 r.xa, .int .i64 r.xb, .int .i64 r.ya, .int .i64 r.yb] 25)).alloc (.cells #[.int .i64 r.xa, .int .i64 r.xb, .int .i64 r.ya, .int .i64 r.yb] 25)).alloc (.cells #[.int .i64 r.xa, .int .i64 r.xb, .int .i64 r.ya, .int .i64 r.yb] 25)).drew wb Bn B nv lv ns l sized kerf at_ av cv accL accC N r k p a b c r r r := by
  have hb : Below W2.heap.size W2 (((W2.alloc (rcO r)).alloc (rcO r)).alloc (rcO r)).drew := bel_drew (by repeat (first | exact Below.refl _ _ | apply bel_alloc))
  have hx : ∀ j, (j = W2.heap.size ∨ j = W2.heap.size + 1 ∨ j = W2.heap.size + 1 + 1) → (((W2.alloc (rcO r)).alloc (rcO r)).alloc (rcO r)).drew.heap[j]? = some (rcO r) := by
    intro j hj
    have a0 := heap_alloc_last W2 (rcO r)
    have a1 := heap_alloc_last (W2.alloc (rcO r)) (rcO r)
    have a2 := heap_alloc_last ((W2.alloc (rcO r)).alloc (rcO r)) (rcO r)
    simp only [World.size_alloc] at a1 a2
    rcases hj with rfl | rfl | rfl
    · exact hpA (hpA a0 _) _
    · exact hpA a1 _
    · exact a2
  exact ⟨h0.below hb, h1.below hb, (hb.block _ (by omega)).trans hr, (hb.block _ (by omega)).trans hn, hx _ h.1, hx _ h.2.1, hx _ h.2.2.1, by omega, by omega, by omega, by omega, by omega, by omega, hN, hB, ha, hc⟩
set_option maxRecDepth 100000 in
set_option maxHeartbeats 16000000 in
theorem walk_rip (wb Bn B : Nat) (nv lv : Value) (ns : List Nd) (l : List Pr) (sized : Bool) (kerf : Int) (lev : Int) (r : Rc) (at_ : Nat) (av cv : Value) (accL : List Lf) (accC : List Rc) (w : World) (hst : WkSt w wb Bn B nv lv ns l sized kerf at_ av cv accL accC) (k p : Int) (hn : ns[at_]? = some ⟨k, p⟩) (hk : k = 2 ∨ k = 3) (h3 : ¬ 64 < lev) (hl1 : 1 ≤ lev) (hr : RcOk r) (hkf : 0 ≤ kerf ∧ kerf ≤ 20) (f : Nat) (hf : (ns.drop (at_ + 1)).length < f) (ih : WkOk wb Bn B nv lv ns l sized kerf f) (R : Int ⊕ (List Nd × List Lf × List Rc)) (hR : R = walkR kerf (bdP sized l) (f + 1) (⟨k, p⟩ :: ns.drop (at_ + 1)) ⟨r, lev⟩) :
    Calls Tryd.prog 82 #[.pointer (some ⟨wb, 0, none⟩), rcV r, .int .i64 lev] w (WkPost w wb Bn B nv lv ns l sized kerf av cv accL accC R) := by
  obtain ⟨A, c, rfl, hc, hml⟩ := hst.rn.form
  unfold maxLen at hml
  obtain ⟨c0, c1, c2, c3, c4, c5, c6, cf, hrs⟩ := hst.cells
  have hlt : at_ < ns.length := (List.getElem?_eq_some_iff.1 hn).1
  obtain ⟨b, off, rfl, hb, d0, d1⟩ := hst.rn.at_ hn
  simp only at d0 d1
  have hd : ¬ ns.length ≤ at_ := by omega
  rw [show rcV r = .agg #[.int .i64 r.xa, .int .i64 r.xb, .int .i64 r.ya, .int .i64 r.yb] from rfl]
  have hbs : b < w.heap.size := by have := hst.hB; have := hst.hwb; have := hst.big; omega
  have hns := hst.hns
  have hla := hst.la
  have hlc := hst.lc
  have HS := Lib.hid hst
  clear hst hn
  have k0 : ¬ k < 0 := by omega
  have k3 : ¬ 3 < k := by omega
  have kb0 : (k == 0) = false := by rw [beq_eq_false_iff_ne]; omega
  have kb1 : (k == 1) = false := by rw [beq_eq_false_iff_ne]; omega
  have HR0 := Lib.hid (fun (h : p ≤ lowP r k ∨ highP r k ≤ p) => hR.trans (walkR_fit (kerf := kerf) (board := bdP sized l) (f := f) (n := ⟨k, p⟩) (ns := ns.drop (at_ + 1)) (x := ⟨r, lev⟩) hk h3 h))
  have HR1 := Lib.hid (fun (h : lowP r k < p ∧ p < highP r k) => (show nodeErr ⟨k, p⟩ ⟨r, lev⟩ = 0 ∧ R = _ from ⟨(walkR_rip (kerf := kerf) (board := bdP sized l) (f := f) (n := ⟨k, p⟩) (ns := ns.drop (at_ + 1)) (x := ⟨r, lev⟩) hk h3 h).1, hR.trans (walkR_rip (kerf := kerf) (board := bdP sized l) (f := f) (n := ⟨k, p⟩) (ns := ns.drop (at_ + 1)) (x := ⟨r, lev⟩) hk h3 h).2⟩))
  have HK := Lib.hid hk
  have HRC := Lib.hid hr
  have HKF := Lib.hid hkf
  have HIH := Lib.hid ih
  have HFF := Lib.hid hf
  clear hk hr hkf ih hf hR
  go_enter Tryd.func82, Tryd.ntmps82
  go_wp2_with fail
  go_quiet (fail)
  go_wp2_with fail
  go_region
  go_upto_region 5 with fail
  obtain ⟨W2, hW2⟩ : ∃ W2, (((w.alloc (.cells #[.int .i64 r.xa, .int .i64 r.xb, .int .i64 r.ya, .int .i64 r.yb] 25)).drewN (nq + 1)).setCell ⟨wb, 4, none⟩ (.int .i64 (at_ + 1))).alloc (.cells #[.int .i64 k, .int .i64 p] 64) = W2 := ⟨_, rfl⟩
  obtain ⟨hs2, ht2, hr2, hn2, hz2, hbz, hwz⟩ := walk_begin HS.out hlt _ _ _ hW2
  obtain ⟨N, hN⟩ : ∃ N, w.heap.size = N := ⟨_, rfl⟩
  rw [hN] at hr2 hn2 hz2 hbz hwz
  have HN := Lib.hid hN
  rw [hW2, hN]
  have HS2 := Lib.hid hs2
  have HT2 := Lib.hid ht2
  have HR2 := Lib.hid hr2
  have HN2 := Lib.hid hn2
  obtain ⟨r0, r1, r2, r3⟩ := cells4 hr2
  obtain ⟨n0, n1⟩ := cells2 hn2
  clear hW2 hs2 ht2 hr2 hn2 c0 c1 c2 c3 c4 c5 c6 cf hrs d0 d1 hd hN hc hb hbs
  obtain ⟨c0, c1, c2, c3, c4, c5, c6, cf, hrs⟩ := HS2.out.cells
  have hNW : N < W2.heap.size := by omega
  have hNW1 : N + 1 < W2.heap.size := by omega
  have HZ2 := Lib.hid hz2
  clear hz2
  have HAC := Lib.hid (show (∀ g, av.ownBlock = some g → g < N) ∧ (∀ g, cv.ownBlock = some g → g < N) from ⟨fun g e => by have := (HS.out.ag e).2.1; have := HN.out; omega, fun g e => by have := (HS.out.cg e).2.1; have := HN.out; omega⟩)
  have e1 : N < W2.heap.size + 1 := by omega
  have e2 : N < W2.heap.size + 1 + 1 := by omega
  have e3 : N < W2.heap.size + 1 + 1 + 1 := by omega
  go_upto_region 16 with fail
  go_cut [8, 9, 10] from 12 (fun x8 x9 x10 wx => ∃ g8 g9 g10, x8 = .pointer (some ⟨g8, 0, none⟩) ∧ x9 = .pointer (some ⟨g9, 0, none⟩) ∧ x10 = .pointer (some ⟨g10, 0, none⟩) ∧ RipSt w wx wb Bn B (.slice (some ⟨b, off, none⟩) ns.length c) lv ns l sized kerf (at_ + 1) av cv accL accC N r k p g8 g9 g10 r r r)
  case first =>
    have S0 := Lib.hid (show W2.drew.cell? ⟨N, 0, none⟩ = some (.int .i64 r.xa) ∧ W2.drew.cell? ⟨N, 1, none⟩ = some (.int .i64 r.xb) ∧ W2.drew.cell? ⟨N, 2, none⟩ = some (.int .i64 r.ya) ∧ W2.drew.cell? ⟨N, 3, none⟩ = some (.int .i64 r.yb) from ⟨r0, r1, r2, r3⟩)
    have S1 := Lib.hid (And.intro r0 (And.intro r1 (And.intro r2 r3)))
    have HNW := Lib.hid hNW
    clear c0 c1 c2 c3 c4 c5 c6 cf hrs r0 r1 r2 r3 n0 n1
    go_region_held3 (fun W => W.cell? ⟨N, 0, none⟩ = some (.int .i64 r.xa) ∧ W.cell? ⟨N, 1, none⟩ = some (.int .i64 r.xb) ∧ W.cell? ⟨N, 2, none⟩ = some (.int .i64 r.ya) ∧ W.cell? ⟨N, 3, none⟩ = some (.int .i64 r.yb))
      (with_reducible first | exact S0.out | exact keepD (keepA S1.out) | exact keepD (keepA (keepA S1.out)) | exact keepD (keepA (keepA (keepA S1.out))))
      (fail)
    all_goals
      simp only [Exit.then]
      go_step
      go_meet
      case rel =>
        refine ⟨_, _, _, rfl, rfl, rfl, ?_⟩
        refine rip_st HS2.out HT2.out HR2.out HN2.out HN.out (by omega) HZ2.out HAC.out.1 HAC.out.2 _ _ _ ?_
        omega
  case rest =>
    obtain ⟨g8, g9, g10, rfl, rfl, rfl, hR3⟩ := hcut
    have H3 := Lib.hid hR3
    clear c0 c1 c2 c3 c4 c5 c6 cf hrs r0 r1 r2 r3 n0 n1 e1 e2 e3
    obtain ⟨c0, c1, c2, c3, c4, c5, c6, cf, hrs⟩ := hR3.st.cells
    obtain ⟨r0, r1, r2, r3⟩ := cells4 hR3.hr
    obtain ⟨n0, n1⟩ := cells2 hR3.hn
    have f8 := frz hR3.h8
    have f9 := frz hR3.h9
    have f10 := frz hR3.h10
    have m1 := hR3.n1
    have m2 := hR3.n2
    have m3 := hR3.n3
    have m4 := hR3.n1.symm
    have m5 := hR3.n2.symm
    have m6 := hR3.n3.symm
    clear hR3
    go_upto_if 98 with fail
    go_cut [] from 12 (fun wx => lowP r k < p ∧ p < highP r k ∧ RipSt w wx wb Bn B (.slice (some ⟨b, off, none⟩) ns.length c) lv ns l sized kerf (at_ + 1) av cv accL accC N r k p g8 g9 g10 (part1 r ⟨k, p⟩) (partC r ⟨k, p⟩ kerf) (part2 r ⟨k, p⟩ kerf))
    case first =>
      rcases HK.out with hk | hk
      · have kb2 : (k == 2) = true := by rw [beq_iff_eq]; exact hk
        have HLW := Lib.hid (show lowP r k = r.xa ∧ highP r k = r.xb from ⟨by rw [lowP, if_pos hk], by rw [highP, if_pos hk]⟩)
        have HK2 := Lib.hid hk
        clear hk
        by_cases hlo : p ≤ r.xa
        · have HZ := Lib.hid (HR0.out (.inl (by rw [HLW.out.1]; exact hlo)))
          go_wp2_with fail
          go_ret
          refine ⟨av, cv, H3.out.to, ?_⟩
          rw [HZ.out]
          rfl
        by_cases hhi : r.xb ≤ p
        · have HZ := Lib.hid (HR0.out (.inr (by rw [HLW.out.2]; exact hhi)))
          go_wp2_with fail
          go_ret
          refine ⟨av, cv, H3.out.to, ?_⟩
          rw [HZ.out]
          rfl
        · have HLH := Lib.hid (show lowP r k < p ∧ p < highP r k from ⟨by rw [HLW.out.1]; omega, by rw [HLW.out.2]; omega⟩)
          go_upto_region 20 with fail
          have HSA := Lib.hid (fun (W : World) (h : W.heap[N]? = some (rcO r)) (h1 : W.heap[N + 1]? = some (.cells #[.int .i64 k, .int .i64 p] 64 (0, 0))) (h2 : W.cell? ⟨wb, 3, none⟩ = some (.int .i64 kerf)) => (⟨(cells4 h).1, (cells4 h).2.1, (cells2 h1).2, h2⟩ : W.cell? ⟨N, 0, none⟩ = some (.int .i64 r.xa) ∧ W.cell? ⟨N, 1, none⟩ = some (.int .i64 r.xb) ∧ W.cell? ⟨N + 1, 1, none⟩ = some (.int .i64 p) ∧ W.cell? ⟨wb, 3, none⟩ = some (.int .i64 kerf)))
          have hgb : wb < Bn ∧ Bn ≤ N := ⟨H3.out.st.hwb, H3.out.hB⟩
          have K8 := Lib.hid (show g8 ≠ N ∧ g8 ≠ N + 1 ∧ g8 ≠ wb by have := H3.out.l8; omega)
          have K9 := Lib.hid (show g9 ≠ N ∧ g9 ≠ N + 1 ∧ g9 ≠ wb by have := H3.out.l9; omega)
          have K10 := Lib.hid (show g10 ≠ N ∧ g10 ≠ N + 1 ∧ g10 ≠ wb by have := H3.out.l10; omega)
          have S0 := Lib.hid (HSA.out wc.drew H3.out.hr H3.out.hn H3.out.st.cells.2.2.2.1)
          clear c0 c1 c2 c3 c4 c5 c6 cf hrs r0 r1 r2 r3 n0 n1 f8 f9 f10 hgb
          go_region_held3 (fun W => W.cell? ⟨N, 0, none⟩ = some (.int .i64 r.xa) ∧ W.cell? ⟨N, 1, none⟩ = some (.int .i64 r.xb) ∧ W.cell? ⟨N + 1, 1, none⟩ = some (.int .i64 p) ∧ W.cell? ⟨wb, 3, none⟩ = some (.int .i64 kerf))
            (with_reducible first | exact S0.out | exact S4.out | exact keep4 (keep4 (by assumption) K8.out) K8.out | exact keep4 (keep4 (by assumption) K9.out) K9.out | exact keep4 (keep4 (by assumption) K10.out) K10.out)
            (first | (go_at_call 104; refine (rParts_any r.xa r.xb p kerf _).mono ?_; rintro e w4 ⟨he, hb4⟩; subst he; have HB4 := Lib.hid (show Below wc.heap.size wc w4 from ⟨hb4.os, hb4.tape, hb4.output, hb4.size, hb4.block⟩); have S4 := Lib.hid (HSA.out w4 (H3.out.below HB4.out).hr (H3.out.below HB4.out).hn (H3.out.below HB4.out).st.cells.2.2.2.1); obtain ⟨x0, x1, x2, x3⟩ := cells4 ((hb4.block g8 H3.out.s8).trans H3.out.h8); obtain ⟨y0, y1, y2, y3⟩ := cells4 ((hb4.block g9 H3.out.s9).trans H3.out.h9); obtain ⟨z0, z1, z2, z3⟩ := cells4 ((hb4.block g10 H3.out.s10).trans H3.out.h10); have g8f := frz ((hb4.block g8 H3.out.s8).trans H3.out.h8); have g9f := frz ((hb4.block g9 H3.out.s9).trans H3.out.h9); have g10f := frz ((hb4.block g10 H3.out.s10).trans H3.out.h10); clear hb4))
          all_goals
            simp only [Exit.then]
            go_step
            go_meet
            case rel => exact ⟨HLH.out.1, HLH.out.2, (H3.out.below HB4.out).parts2 (x := r) (y := r) (z := r) HK2.out (min (wrap64 (p + kerf)) r.xb) rfl⟩
      · have kb2 : (k == 2) = false := by rw [beq_eq_false_iff_ne]; omega
        have HLW := Lib.hid (show lowP r k = r.ya ∧ highP r k = r.yb from ⟨by rw [lowP, if_neg (by omega)], by rw [highP, if_neg (by omega)]⟩)
        have HK2 := Lib.hid hk
        clear hk
        by_cases hlo : p ≤ r.ya
        · have HZ := Lib.hid (HR0.out (.inl (by rw [HLW.out.1]; exact hlo)))
          go_wp2_with fail
          go_ret
          refine ⟨av, cv, H3.out.to, ?_⟩
          rw [HZ.out]
          rfl
        by_cases hhi : r.yb ≤ p
        · have HZ := Lib.hid (HR0.out (.inr (by rw [HLW.out.2]; exact hhi)))
          go_wp2_with fail
          go_ret
          refine ⟨av, cv, H3.out.to, ?_⟩
          rw [HZ.out]
          rfl
        · have HLH := Lib.hid (show lowP r k < p ∧ p < highP r k from ⟨by rw [HLW.out.1]; omega, by rw [HLW.out.2]; omega⟩)
          go_upto_region 23 with fail
          have HSA := Lib.hid (fun (W : World) (h : W.heap[N]? = some (rcO r)) (h1 : W.heap[N + 1]? = some (.cells #[.int .i64 k, .int .i64 p] 64 (0, 0))) (h2 : W.cell? ⟨wb, 3, none⟩ = some (.int .i64 kerf)) => (⟨(cells4 h).2.2.1, (cells4 h).2.2.2, (cells2 h1).2, h2⟩ : W.cell? ⟨N, 2, none⟩ = some (.int .i64 r.ya) ∧ W.cell? ⟨N, 3, none⟩ = some (.int .i64 r.yb) ∧ W.cell? ⟨N + 1, 1, none⟩ = some (.int .i64 p) ∧ W.cell? ⟨wb, 3, none⟩ = some (.int .i64 kerf)))
          have hgb : wb < Bn ∧ Bn ≤ N := ⟨H3.out.st.hwb, H3.out.hB⟩
          have K8 := Lib.hid (show g8 ≠ N ∧ g8 ≠ N + 1 ∧ g8 ≠ wb by have := H3.out.l8; omega)
          have K9 := Lib.hid (show g9 ≠ N ∧ g9 ≠ N + 1 ∧ g9 ≠ wb by have := H3.out.l9; omega)
          have K10 := Lib.hid (show g10 ≠ N ∧ g10 ≠ N + 1 ∧ g10 ≠ wb by have := H3.out.l10; omega)
          have S0 := Lib.hid (HSA.out wc.drew H3.out.hr H3.out.hn H3.out.st.cells.2.2.2.1)
          clear c0 c1 c2 c3 c4 c5 c6 cf hrs r0 r1 r2 r3 n0 n1 f8 f9 f10 hgb
          go_region_held3 (fun W => W.cell? ⟨N, 2, none⟩ = some (.int .i64 r.ya) ∧ W.cell? ⟨N, 3, none⟩ = some (.int .i64 r.yb) ∧ W.cell? ⟨N + 1, 1, none⟩ = some (.int .i64 p) ∧ W.cell? ⟨wb, 3, none⟩ = some (.int .i64 kerf))
            (with_reducible first | exact S0.out | exact S4.out | exact keep4 (keep4 (by assumption) K8.out) K8.out | exact keep4 (keep4 (by assumption) K9.out) K9.out | exact keep4 (keep4 (by assumption) K10.out) K10.out)
            (first | (go_at_call 104; refine (rParts_any r.ya r.yb p kerf _).mono ?_; rintro e w4 ⟨he, hb4⟩; subst he; have HB4 := Lib.hid (show Below wc.heap.size wc w4 from ⟨hb4.os, hb4.tape, hb4.output, hb4.size, hb4.block⟩); have S4 := Lib.hid (HSA.out w4 (H3.out.below HB4.out).hr (H3.out.below HB4.out).hn (H3.out.below HB4.out).st.cells.2.2.2.1); obtain ⟨x0, x1, x2, x3⟩ := cells4 ((hb4.block g8 H3.out.s8).trans H3.out.h8); obtain ⟨y0, y1, y2, y3⟩ := cells4 ((hb4.block g9 H3.out.s9).trans H3.out.h9); obtain ⟨z0, z1, z2, z3⟩ := cells4 ((hb4.block g10 H3.out.s10).trans H3.out.h10); have g8f := frz ((hb4.block g8 H3.out.s8).trans H3.out.h8); have g9f := frz ((hb4.block g9 H3.out.s9).trans H3.out.h9); have g10f := frz ((hb4.block g10 H3.out.s10).trans H3.out.h10); clear hb4))
          all_goals
            simp only [Exit.then]
            go_step
            go_meet
            case rel => exact ⟨HLH.out.1, HLH.out.2, (H3.out.below HB4.out).parts3 (x := r) (y := r) (z := r) HK2.out (min (wrap64 (p + kerf)) r.yb) rfl⟩

    case rest =>
      obtain ⟨hlo, hhi, hR4⟩ := hcut
      have H4 := Lib.hid hR4
      have HPO := Lib.hid (part_ok (n := ⟨k, p⟩) (x := ⟨r, lev⟩) HKF.out HRC.out (HR1.out ⟨hlo, hhi⟩).1 (by unfold ripP; rw [Bool.or_eq_true, beq_iff_eq, beq_iff_eq]; exact HK.out))
      obtain ⟨y, hy⟩ : ∃ y, partC r ⟨k, p⟩ kerf = y := ⟨_, rfl⟩
      have HR2 := Lib.hid (HR1.out ⟨hlo, hhi⟩).2
      have HY := Lib.hid hy
      rw [hy] at H4 hR4
      clear hlo hhi hy c0 c1 c2 c3 c4 c5 c6 cf hrs r0 r1 r2 r3 n0 n1 HR0 HR1 f8 f9 f10 m1 m2 m3 m4 m5 m6 H3
      obtain ⟨c0, c1, c2, c3, c4, c5, c6, cf, hrs⟩ := hR4.st.cells
      obtain ⟨y0, y1, y2, y3⟩ := cells4 hR4.h9
      have s9 := hR4.s9
      clear hR4
      obtain ⟨i0, hi0, hq0, hq1, hq2⟩ := info_parts rc_infoE
      have HS5 := Lib.hid (H4.out.st.next (.cells #[.int .i64 y.xa, .int .i64 y.xb, .int .i64 y.ya, .int .i64 y.yb] 25))
      obtain ⟨x1, hx1⟩ : ∃ x1, part1 r ⟨k, p⟩ = x1 := ⟨_, rfl⟩
      obtain ⟨x2, hx2⟩ : ∃ x2, part2 r ⟨k, p⟩ kerf = x2 := ⟨_, rfl⟩
      rw [hx1, hx2] at H4
      have HX1 := Lib.hid hx1
      have HX2 := Lib.hid hx2
      clear hx1 hx2
      have hlc9 : accC.length < at_ + 1 := by omega
      go_upto_region 24 with fail
      go_cut [] from 12 (fun wx => ∃ cv2, WkSt wx wb Bn B (.slice (some ⟨b, off, none⟩) ns.length c) lv ns l sized kerf (at_ + 1) av cv2 accL (accC ++ [y]) ∧ WkTo w wx wb av cv av cv2 ∧ wx.heap[g8]? = some (rcO x1) ∧ wx.heap[g10]? = some (rcO x2) ∧ cv2.ownBlock ≠ some g10)
      case first =>
        go_region_law
          ((refine step_append_lies _ (by rfl) _ _ 38 (by rfl) Bn 25 i0 _ 4 32 Tryd.underlying38 hi0 hq0 hq1 hq2 rfl (by omega) cv accC.length (rcsCells accC) (by rfl) HS5.out.oc ⟨wc.heap.size, 0, none⟩ 1 1 [.int .i64 y.xa, .int .i64 y.xb, .int .i64 y.ya, .int .i64 y.yb] (by rfl) (by rfl) (World.news_of_block (cs := #[.int .i64 y.xa, .int .i64 y.xb, .int .i64 y.ya, .int .i64 y.yb]) (t := 25) (fr := (0, 0)) (heap_alloc_last wc _)) (rc_mem y) (by omega) (by simp only [maxLen]; omega) (by omega) (by rw [szq]; have := H4.out.st.big; omega) (wc.heap.size + 1) szq ?_; intro gg cap w9 hown9 hgrow hat hlt9; obtain ⟨c69, f69⟩ := HS5.out.c6 hgrow))
        all_goals
          have hs10 := HS5.out.cut (x := y) (H := 0) hgrow hown9 hlc9
          have hgw : wb < Bn ∧ Bn ≤ N ∧ N + 1 < g8 ∧ N + 1 < g10 := ⟨H4.out.st.hwb, H4.out.hB, H4.out.l8, H4.out.l10⟩
          have hcn : ∀ q, N ≤ q → cv.ownBlock ≠ some q := fun q hq e => by have := HAC.out.2 q e; omega
          have hx8 := box_app (wb := wb) (i := 6) (v := .slice (some ⟨gg, 0, none⟩) (accC.length + 1) cap) hgrow (show (wc.alloc (.cells #[.int .i64 y.xa, .int .i64 y.xb, .int .i64 y.ya, .int .i64 y.yb] 25)).drew.heap[g8]? = _ from hpA H4.out.h8 _) (hcn _ (by omega)) (by omega)
          have hx10 := box_app (wb := wb) (i := 6) (v := .slice (some ⟨gg, 0, none⟩) (accC.length + 1) cap) hgrow (show (wc.alloc (.cells #[.int .i64 y.xa, .int .i64 y.xb, .int .i64 y.ya, .int .i64 y.yb] 25)).drew.heap[g10]? = _ from hpA H4.out.h10 _) (hcn _ (by omega)) (by omega)
          have hs10' := H4.out.s10
          have hsz := H4.out.to.size
          have ht10 := ((H4.out.to.below (bel_drew (bel_alloc (ob := .cells #[.int .i64 y.xa, .int .i64 y.xb, .int .i64 y.ya, .int .i64 y.yb] 25) (Below.refl _ _)))).app2 hgrow (hat.imp id fun e => by subst e; omega) 6 (.slice (some ⟨gg, 0, none⟩) (accC.length + 1) cap) (accC.length + 1) cap)
          have hgg : gg ≠ g10 := fun e => by
            subst e
            rcases hat with h | h
            · exact hcn _ (by omega) h
            · omega
          simp only [Exit.then]
          go_step
          go_meet
          case rel => exact ⟨.slice (some ⟨gg, 0, none⟩) (accC.length + 1) cap, hs10, ht10, hx8, hx10, fun e => hgg (by have e : some gg = some g10 := e; injection e)⟩
      case rest =>
        obtain ⟨cv2, hs10, ht10, hx8, hx10, hng⟩ := hcut
        have HS10 := Lib.hid hs10
        have HT10 := Lib.hid ht10
        have HX8 := Lib.hid hx8
        have HX10 := Lib.hid hx10
        have HNG := Lib.hid hng
        have HL10 := Lib.hid H4.out.l10
        clear c0 c1 c2 c3 c4 c5 c6 cf hrs y0 y1 y2 y3 s9 H4 HS5
        obtain ⟨z0, z1, z2, z3⟩ := cells4 hx8
        have s10 := (Array.getElem?_eq_some_iff.1 hx10).1
        have HNS := Lib.hid hns
        clear hs10 ht10 hx8 hx10 hng hns hla hlc hlc9
        obtain ⟨M, hM⟩ : ∃ M, ns.drop (at_ + 1) = M := ⟨_, rfl⟩
        obtain ⟨e1, e2⟩ := walk_chk kerf (bdP sized l) f M ⟨x1, lev + 1⟩ (hM ▸ HFF.out)
        have HE1 := Lib.hid e1
        have HE2 := Lib.hid e2
        have HMM := Lib.hid hM
        obtain ⟨Q, hQ⟩ : ∃ Q, walkR kerf (bdP sized l) f M ⟨x1, lev + 1⟩ = Q := ⟨_, rfl⟩
        have HQQ := Lib.hid hQ
        have HR3 := Lib.hid (show R = ripGo (fun m => walkR kerf (bdP sized l) f m ⟨x2, lev + 1⟩) y Q by
          have h := HR2.out
          simp only [HX1.out, HX2.out, HMM.out, HQQ.out, HY.out] at h
          exact h)
        have hcall := HIH.out (lev + 1) x1 (at_ + 1) av cv2 accL (accC ++ [y]) wc HFF.out (by omega) (by omega) (HX1.out ▸ HPO.out.1) HS10.out
        rw [hM, hQ] at hcall
        have HCALL := Lib.hid hcall
        clear e1 e2 hM hQ hcall HR2
        go_wp2_with fail
        refine (show Calls Tryd.prog 82 #[.pointer (some ⟨wb, 0, none⟩), .agg #[.int .i64 x1.xa, .int .i64 x1.xb, .int .i64 x1.ya, .int .i64 x1.yb], .int .i64 (lev + 1)] wc _ from HCALL.out).mono ?_
        rintro e w11 ⟨av3, cv3, ht11, hm⟩
        cases Q with
        | inl q =>
          simp only at hm
          subst hm
          have hq0 : (q != 0) = true := by rw [bne_iff_ne]; exact (HE1.out q HQQ.out).1
          have HT11 := Lib.hid (HT10.out.trans ht11)
          clear ht11 HE1 HE2
          go_wp2_with fail
          go_ret
          refine ⟨av3, cv3, HT11.out, ?_⟩
          rw [HR3.out]
          rfl
        | inr q =>
          obtain ⟨m1, l1, c1⟩ := q
          simp only at hm
          obtain ⟨he, at3, hm1, hs11⟩ := hm
          subst he
          have HT11 := Lib.hid (HT10.out.trans ht11)
          have HS11 := Lib.hid hs11
          have hx11 : w11.heap[g10]? = some (rcO x2) := (ht11.block g10 s10 (by have := HS10.out.hwb; have := HN.out; have := HL10.out; omega) (fun e => by have := HAC.out.1 g10 e; have := HL10.out; omega) HNG.out).trans HX10.out
          have hlen := (HE2.out m1 l1 c1 HQQ.out).1
          have hfm : (ns.drop at3).length < f := by rw [← hm1]; have := HFF.out; rw [HMM.out] at this; omega
          obtain ⟨e1, e2⟩ := walk_chk kerf (bdP sized l) f m1 ⟨x2, lev + 1⟩ (hm1 ▸ hfm)
          have HE3 := Lib.hid e1
          have hcall := HIH.out (lev + 1) x2 at3 av3 cv3 (accL ++ l1) ((accC ++ [y]) ++ c1) w11 hfm (by omega) (by omega) (HX2.out ▸ HPO.out.2.2.1) hs11
          rw [← hm1] at hcall
          obtain ⟨Q2, hQ2⟩ : ∃ Q, walkR kerf (bdP sized l) f m1 ⟨x2, lev + 1⟩ = Q := ⟨_, rfl⟩
          rw [hQ2] at hcall
          have HCALL2 := Lib.hid hcall
          have HR4 := Lib.hid (show R = ripGo2 l1 c1 y Q2 by
            have h := HR3.out
            simp only [ripGo, hQ2] at h
            exact h)
          clear z0 z1 z2 z3
          obtain ⟨z0, z1, z2, z3⟩ := cells4 hx11
          clear ht11 hs11 hx11 hlen hfm hm1 hcall e1 e2 hQ2 HR3 HE1 HE2 s10
          go_wp2_with fail
          refine (show Calls Tryd.prog 82 #[.pointer (some ⟨wb, 0, none⟩), .agg #[.int .i64 x2.xa, .int .i64 x2.xb, .int .i64 x2.ya, .int .i64 x2.yb], .int .i64 (lev + 1)] w11 _ from HCALL2.out).mono ?_
          rintro e w12 ⟨av4, cv4, ht12, hm⟩
          cases Q2 with
          | inl q =>
            simp only at hm
            subst hm
            have HT12 := Lib.hid (HT11.out.trans ht12)
            clear ht12
            go_wp2_with fail
            go_ret
            refine ⟨av4, cv4, HT12.out, ?_⟩
            rw [HR4.out]
            rfl
          | inr q =>
            obtain ⟨m2, l2, c2⟩ := q
            simp only at hm
            obtain ⟨he, at4, hm2, hs12⟩ := hm
            subst he
            have HT12 := Lib.hid (HT11.out.trans ht12)
            have HS12 := Lib.hid hs12
            have HM2 := Lib.hid hm2
            clear ht12 hs12 hm2
            go_wp2_with fail
            go_ret
            refine ⟨av4, cv4, HT12.out, ?_⟩
            rw [HR4.out]
            refine ⟨rfl, at4, HM2.out, ?_⟩
            have h := HS12.out
            rw [List.append_assoc, List.append_assoc, List.append_assoc, List.cons_append, List.nil_append] at h
            exact h

end Go.Proofs.YtbmcfodhjibooaaDoor
