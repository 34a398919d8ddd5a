/-
  The reference's walker: how its memory stands between its steps (package sawmillref21).
-/
import Derived.Test.YtbmcfodhjibooaaDoorPaV
namespace Go.Proofs.YtbmcfodhjibooaaDoor
open Go.RowKit Saw Go.Sort

/-- The board's error of a walk. -/
def bdP (sized : Bool) (l : List Pr) : Rc → Int → Int := if sized then boardP l else anyB
theorem rboard_any (l : List Pr) (r : Rc) (n : Nd) (w : World) (wb : Nat) (nv lv : Value) (sized : Bool) (kerf : Int) (at_ : Nat) (av cv : Value) (h : WkAt w wb nv lv sized kerf at_ av cv) (hrd : RdPr w w.heap.size lv l) (hr : RcOk r) :
    Calls Tryd.prog 103 #[.pointer (some ⟨wb, 0, none⟩), ndV n, rcV r] w (IntB (bdP sized l r n.pos) w) := by
  cases sized with
  | true => exact rboardS_any l r n w wb nv lv kerf at_ av cv h hrd hr
  | false => exact rboardU_any r n w wb nv lv kerf at_ av cv h

/-- The walker, its nodes and products, and what it has gathered. -/
structure WkSt (W : World) (wb Bn B : Nat) (nv lv : Value) (ns : List Nd) (l : List Pr) (sized : Bool) (kerf : Int) (at_ : Nat) (av cv : Value) (accL : List Lf) (accC : List Rc) : Prop where
  wk : WkAt W wb nv lv sized kerf at_ av cv
  ol : W.ownsRow Bn 59 5 av accL.length (lfsCells accL)
  oc : W.ownsRow Bn 25 4 cv accC.length (rcsCells accC)
  rn : RdNd W B nv ns
  rp : RdPr W B lv l
  hB : B ≤ wb
  hwb : wb < Bn
  big : Bn ≤ W.heap.size
  la : accL.length ≤ at_
  lc : accC.length ≤ at_
  hat : at_ ≤ ns.length
  hns : ns.length ≤ 127
/-- What a walk leaves of memory. -/
structure WkTo (w W : World) (wb : Nat) (av cv av' cv' : Value) : Prop where
  os : W.os = w.os
  tape : W.tape = w.tape
  output : W.output = w.output
  size : w.heap.size ≤ W.heap.size
  block : ∀ k, k < w.heap.size → k ≠ wb → av.ownBlock ≠ some k → cv.ownBlock ≠ some k → W.heap[k]? = w.heap[k]?
  na : av'.ownBlock = av.ownBlock ∨ ∀ g, av'.ownBlock = some g → w.heap.size ≤ g
  nc : cv'.ownBlock = cv.ownBlock ∨ ∀ g, cv'.ownBlock = some g → w.heap.size ≤ g
theorem WkTo.refl (w : World) (wb : Nat) (av cv : Value) : WkTo w w wb av cv av cv := ⟨rfl, rfl, rfl, Nat.le_refl _, fun _ _ _ _ _ => rfl, .inl rfl, .inl rfl⟩
theorem WkTo.trans {a b c : World} {wb : Nat} {v1 v2 v3 u1 u2 u3 : Value} (h : WkTo a b wb v1 u1 v2 u2) (g : WkTo b c wb v2 u2 v3 u3) : WkTo a c wb v1 u1 v3 u3 := by
  have hs := h.size
  refine ⟨g.os.trans h.os, g.tape.trans h.tape, g.output.trans h.output, Nat.le_trans h.size g.size, fun k h1 h2 h3 h4 => (g.block k (by omega) h2 ?_ ?_).trans (h.block k h1 h2 h3 h4), ?_, ?_⟩
  · intro e
    rcases h.na with h5 | h5
    · exact h3 (h5 ▸ e)
    · have := h5 k e; omega
  · intro e
    rcases h.nc with h5 | h5
    · exact h4 (h5 ▸ e)
    · have := h5 k e; omega
  · rcases g.na with h5 | h5
    · rcases h.na with h6 | h6
      · exact .inl (h5.trans h6)
      · exact .inr fun k e => h6 k (h5 ▸ e)
    · exact .inr fun k e => Nat.le_trans hs (h5 k e)
  · rcases g.nc with h5 | h5
    · rcases h.nc with h6 | h6
      · exact .inl (h5.trans h6)
      · exact .inr fun k e => h6 k (h5 ▸ e)
    · exact .inr fun k e => Nat.le_trans hs (h5 k e)
theorem WkTo.gb {w W W5 : World} {wb : Nat} {v1 u1 v2 u2 : Value} {row : Option Nat} (h : WkTo w W wb v1 u1 v2 u2) (hg : W.grownBy W5 row) (hr : ∀ g, row = some g → g = wb ∨ w.heap.size ≤ g ∨ v1.ownBlock = some g ∨ u1.ownBlock = some g) : WkTo w W5 wb v1 u1 v2 u2 := by
  have hs := h.size
  refine ⟨hg.os.trans h.os, hg.tape.trans h.tape, hg.output.trans h.output, Nat.le_trans h.size hg.size, fun k h1 h2 h3 h4 => (hg.block k (by omega) fun e => ?_).trans (h.block k h1 h2 h3 h4), h.na, h.nc⟩
  rcases hr k e.symm with h5 | h5 | h5 | h5
  · exact h2 h5
  · omega
  · exact h3 h5
  · exact h4 h5
theorem WkTo.below {w W W5 : World} {wb : Nat} {v1 u1 v2 u2 : Value} (h : WkTo w W wb v1 u1 v2 u2) (hg : Below W.heap.size W W5) : WkTo w W5 wb v1 u1 v2 u2 :=
  h.gb (row := none) (gb_below hg) (fun _ e => by cases e)
/-- Memory that is not the walker's is kept. -/
theorem WkTo.out {w W : World} {wb B : Nat} {v1 u1 v2 u2 : Value} (h : WkTo w W wb v1 u1 v2 u2) (hB : B ≤ wb) (hw : B ≤ w.heap.size) (h1 : ∀ g, v1.ownBlock = some g → B ≤ g) (h2 : ∀ g, u1.ownBlock = some g → B ≤ g) : Below B w W :=
  ⟨h.os, h.tape, h.output, h.size, fun k hk => h.block k (by omega) (by omega) (fun e => by have := h1 k e; omega) (fun e => by have := h2 k e; omega)⟩
theorem gb_setW (W : World) (g i : Nat) (v : Value) : W.grownBy (W.setCell ⟨g, i, none⟩ v) (some g) := ⟨rfl, rfl, rfl, by simp [World.setCell], fun j _ hne => Below.heap_setCell _ _ _ _ (fun e => hne (by rw [e]))⟩
section
variable {W W5 : World} {wb Bn B : Nat} {nv lv : Value} {ns : List Nd} {l : List Pr} {sized : Bool} {kerf : Int} {at_ : Nat} {av cv : Value} {accL : List Lf} {accC : List Rc}
theorem WkSt.ag (h : WkSt W wb Bn B nv lv ns l sized kerf at_ av cv accL accC) {g : Nat} (e : av.ownBlock = some g) : Bn ≤ g ∧ g < W.heap.size ∧ cv.ownBlock ≠ some g := by
  obtain ⟨q1, cur, q2⟩ := own_at h.ol e
  refine ⟨q1, (Array.getElem?_eq_some_iff.1 q2).1, fun e2 => ?_⟩
  obtain ⟨_, cur2, q3⟩ := own_at h.oc e2
  rw [q2] at q3
  injection q3 with q3
  injection q3 with _ q4
  exact absurd q4 (by decide)
theorem WkSt.cg (h : WkSt W wb Bn B nv lv ns l sized kerf at_ av cv accL accC) {g : Nat} (e : cv.ownBlock = some g) : Bn ≤ g ∧ g < W.heap.size ∧ av.ownBlock ≠ some g := by
  obtain ⟨q1, cur, q2⟩ := own_at h.oc e
  exact ⟨q1, (Array.getElem?_eq_some_iff.1 q2).1, fun e2 => (h.ag e2).2.2 e⟩
theorem WkSt.gb {row : Option Nat} (h : WkSt W wb Bn B nv lv ns l sized kerf at_ av cv accL accC) (hg : W.grownBy W5 row) (hr : ∀ g, row = some g → Bn ≤ g ∧ av.ownBlock ≠ some g ∧ cv.ownBlock ≠ some g) : WkSt W5 wb Bn B nv lv ns l sized kerf at_ av cv accL accC := by
  have h1 := h.hB
  have h2 := h.hwb
  have h3 := h.big
  have hb : Below B W W5 := ⟨hg.os, hg.tape, hg.output, hg.size, fun k hk => hg.block k (by omega) fun e => by have := (hr k e.symm).1; omega⟩
  refine ⟨(hg.block wb (by omega) fun e => ?_).trans h.wk, h.ol.kept hg ?_, h.oc.kept hg ?_, h.rn.below hb, h.rp.below hb, h1, h2, Nat.le_trans h3 hg.size, h.la, h.lc, h.hat, h.hns⟩
  · have := (hr wb e.symm).1; omega
  · cases e : av.ownBlock with
    | none => exact .inl rfl
    | some g => exact .inr fun e2 => (hr g e2.symm).2.1 e
  · cases e : cv.ownBlock with
    | none => exact .inl rfl
    | some g => exact .inr fun e2 => (hr g e2.symm).2.2 e
theorem WkSt.below (h : WkSt W wb Bn B nv lv ns l sized kerf at_ av cv accL accC) (hg : Below W.heap.size W W5) : WkSt W5 wb Bn B nv lv ns l sized kerf at_ av cv accL accC := h.gb (row := none) (gb_below hg) (fun _ e => by cases e)
theorem WkSt.alloc (h : WkSt W wb Bn B nv lv ns l sized kerf at_ av cv accL accC) (o : Obj) : WkSt (W.alloc o) wb Bn B nv lv ns l sized kerf at_ av cv accL accC := h.gb (World.grownBy_alloc W o none) (fun _ e => by cases e)
theorem WkSt.cells (h : WkSt W wb Bn B nv lv ns l sized kerf at_ av cv accL accC) : W.cell? ⟨wb, 0, none⟩ = some nv ∧ W.cell? ⟨wb, 1, none⟩ = some lv ∧ W.cell? ⟨wb, 2, none⟩ = some (.bool sized) ∧ W.cell? ⟨wb, 3, none⟩ = some (.int .i64 kerf) ∧ W.cell? ⟨wb, 4, none⟩ = some (.int .i64 at_) ∧ W.cell? ⟨wb, 5, none⟩ = some av ∧ W.cell? ⟨wb, 6, none⟩ = some cv ∧ (∀ i, W.frozen? ⟨wb, i, none⟩ = false) ∧ wb < W.heap.size := h.wk.cells
/-- A cell of the walker's block is written. -/
theorem WkSt.set (h : WkSt W wb Bn B nv lv ns l sized kerf at_ av cv accL accC) (i : Nat) (v : Value) {at2 : Nat} {av2 cv2 : Value} (hc : (#[nv, lv, .bool sized, .int .i64 kerf, .int .i64 at_, av, cv] : Array Value).setIfInBounds i v = #[nv, lv, .bool sized, .int .i64 kerf, .int .i64 at2, av2, cv2]) {accL2 : List Lf} {accC2 : List Rc}
    (hol : W.ownsRow Bn 59 5 av2 accL2.length (lfsCells accL2)) (hoc : W.ownsRow Bn 25 4 cv2 accC2.length (rcsCells accC2)) (h1 : accL2.length ≤ at2) (h2 : accC2.length ≤ at2) (h3 : at2 ≤ ns.length) :
    WkSt (W.setCell ⟨wb, i, none⟩ v) wb Bn B nv lv ns l sized kerf at2 av2 cv2 accL2 accC2 := by
  have hg := gb_setW W wb i v
  have k1 := h.hB
  have k2 := h.hwb
  have k3 := h.big
  have hb : Below B W (W.setCell ⟨wb, i, none⟩ v) := ⟨hg.os, hg.tape, hg.output, hg.size, fun k hk => hg.block k (by omega) fun e => by injection e; omega⟩
  refine ⟨?_, hol.kept hg ?_, hoc.kept hg ?_, h.rn.below hb, h.rp.below hb, k1, k2, Nat.le_trans k3 hg.size, h1, h2, h3, h.hns⟩
  · unfold WkAt
    rw [setCell_eq_setRow W wb i _ _ _ _ h.wk, setRow_heap _ _ _ _ _ _ h.wk, hc]
  · cases e : av2.ownBlock with
    | none => exact .inl rfl
    | some g => exact .inr fun e2 => by injection e2 with e2; have := (own_at hol e).1; omega
  · cases e : cv2.ownBlock with
    | none => exact .inl rfl
    | some g => exact .inr fun e2 => by injection e2 with e2; have := (own_at hoc e).1; omega
theorem WkSt.step (h : WkSt W wb Bn B nv lv ns l sized kerf at_ av cv accL accC) (hlt : at_ < ns.length) : WkSt (W.setCell ⟨wb, 4, none⟩ (.int .i64 (at_ + 1))) wb Bn B nv lv ns l sized kerf (at_ + 1) av cv accL accC :=
  h.set 4 _ (by rfl) h.ol h.oc (Nat.le_succ_of_le h.la) (Nat.le_succ_of_le h.lc) hlt
/-- A leaf is appended, and a store puts the new slice in its place. -/
theorem WkSt.leaf {v2 : Value} {x : Lf} {H : Nat} (h : WkSt W wb Bn B nv lv ns l sized kerf at_ av cv accL accC) (hg : W.grownBy W5 av.ownBlock) (hown : W5.ownsRow Bn 59 5 v2 (accL.length + 1) (lfsCells accL ++ lfCells x)) (hlt : accL.length < at_) :
    WkSt (W5.setCell ⟨wb, 5, none⟩ v2) wb Bn B nv lv ns l sized kerf at_ v2 cv (accL ++ [x]) accC := by
  have k1 := h.hB
  have k2 := h.hwb
  have k3 := h.big
  have hb : Below B W W5 := ⟨hg.os, hg.tape, hg.output, hg.size, fun k hk => hg.block k (by omega) fun e => by have := (h.ag e.symm).1; omega⟩
  have hwk : WkAt W5 wb nv lv sized kerf at_ av cv := (hg.block wb (by omega) fun e => by have := (h.ag e.symm).1; omega).trans h.wk
  have hoc : W5.ownsRow Bn 25 4 cv accC.length (rcsCells accC) := h.oc.kept hg (by
    cases e : cv.ownBlock with
    | none => exact .inl rfl
    | some g => exact .inr fun e2 => (h.cg e).2.2 e2.symm)
  have hol : W5.ownsRow Bn 59 5 v2 (accL ++ [x]).length (lfsCells (accL ++ [x])) := by
    rw [List.length_append, lfsCells_snoc]; exact hown
  have hs := gb_setW W5 wb 5 v2
  have hb2 : Below B W5 (W5.setCell ⟨wb, 5, none⟩ v2) := ⟨hs.os, hs.tape, hs.output, hs.size, fun k hk => hs.block k (by have := hg.size; omega) fun e => by injection e; omega⟩
  refine ⟨?_, hol.kept hs ?_, hoc.kept hs ?_, (h.rn.below hb).below hb2, (h.rp.below hb).below hb2, k1, k2, Nat.le_trans k3 (Nat.le_trans hg.size hs.size), by rw [List.length_append]; exact hlt, h.lc, h.hat, h.hns⟩
  · unfold WkAt
    rw [setCell_eq_setRow W5 wb 5 _ _ _ _ hwk, setRow_heap _ _ _ _ _ _ hwk]
    rfl
  · cases e : v2.ownBlock with
    | none => exact .inl rfl
    | some g => exact .inr fun e2 => by injection e2 with e2; have := (own_at hol e).1; omega
  · cases e : cv.ownBlock with
    | none => exact .inl rfl
    | some g => exact .inr fun e2 => by injection e2 with e2; have := (own_at hoc e).1; omega
theorem WkSt.cut {v2 : Value} {x : Rc} {H : Nat} (h : WkSt W wb Bn B nv lv ns l sized kerf at_ av cv accL accC) (hg : W.grownBy W5 cv.ownBlock) (hown : W5.ownsRow Bn 25 4 v2 (accC.length + 1) (rcsCells accC ++ rcCells x)) (hlt : accC.length < at_) :
    WkSt (W5.setCell ⟨wb, 6, none⟩ v2) wb Bn B nv lv ns l sized kerf at_ av v2 accL (accC ++ [x]) := by
  have k1 := h.hB
  have k2 := h.hwb
  have k3 := h.big
  have hb : Below B W W5 := ⟨hg.os, hg.tape, hg.output, hg.size, fun k hk => hg.block k (by omega) fun e => by have := (h.cg e.symm).1; omega⟩
  have hwk : WkAt W5 wb nv lv sized kerf at_ av cv := (hg.block wb (by omega) fun e => by have := (h.cg e.symm).1; omega).trans h.wk
  have hol : W5.ownsRow Bn 59 5 av accL.length (lfsCells accL) := h.ol.kept hg (by
    cases e : av.ownBlock with
    | none => exact .inl rfl
    | some g => exact .inr fun e2 => (h.ag e).2.2 e2.symm)
  have hoc : W5.ownsRow Bn 25 4 v2 (accC ++ [x]).length (rcsCells (accC ++ [x])) := by
    rw [List.length_append, rcsCells_snoc]; exact hown
  have hs := gb_setW W5 wb 6 v2
  have hb2 : Below B W5 (W5.setCell ⟨wb, 6, none⟩ v2) := ⟨hs.os, hs.tape, hs.output, hs.size, fun k hk => hs.block k (by have := hg.size; omega) fun e => by injection e; omega⟩
  refine ⟨?_, hol.kept hs ?_, hoc.kept hs ?_, (h.rn.below hb).below hb2, (h.rp.below hb).below hb2, k1, k2, Nat.le_trans k3 (Nat.le_trans hg.size hs.size), h.la, by rw [List.length_append]; exact hlt, h.hat, h.hns⟩
  · unfold WkAt
    rw [setCell_eq_setRow W5 wb 6 _ _ _ _ hwk, setRow_heap _ _ _ _ _ _ hwk]
    rfl
  · cases e : av.ownBlock with
    | none => exact .inl rfl
    | some g => exact .inr fun e2 => by injection e2 with e2; have := (own_at hol e).1; omega
  · cases e : v2.ownBlock with
    | none => exact .inl rfl
    | some g => exact .inr fun e2 => by injection e2 with e2; have := (own_at hoc e).1; omega
end
/-- The end of a walk. -/
def WkPost (w : World) (wb Bn B : Nat) (nv lv : Value) (ns : List Nd) (l : List Pr) (sized : Bool) (kerf : Int) (av cv : Value) (accL : List Lf) (accC : List Rc) (R : Int ⊕ (List Nd × List Lf × List Rc)) (e : Ending) (w' : World) : Prop :=
  ∃ av' cv', WkTo w w' wb av cv av' cv' ∧ match R with
    | .inl k => e = .returned (.int .i64 k)
    | .inr (rem, l1, c1) => e = .returned (.int .i64 0) ∧ ∃ at', rem = ns.drop at' ∧ WkSt w' wb Bn B nv lv ns l sized kerf at' av' cv' (accL ++ l1) (accC ++ c1)
def WkOk (wb Bn B : Nat) (nv lv : Value) (ns : List Nd) (l : List Pr) (sized : Bool) (kerf : Int) (f : Nat) : Prop :=
  ∀ (lev : Int) (r : Rc) (at_ : Nat) (av cv : Value) (accL : List Lf) (accC : List Rc) (w : World), (ns.drop at_).length < f → 1 ≤ lev → lev ≤ 65 → RcOk r → WkSt w wb Bn B nv lv ns l sized kerf at_ av cv accL accC →
    Calls Tryd.prog 82 #[.pointer (some ⟨wb, 0, none⟩), rcV r, .int .i64 lev] w (WkPost w wb Bn B nv lv ns l sized kerf av cv accL accC (walkR kerf (bdP sized l) f (ns.drop at_) ⟨r, lev⟩))
end Go.Proofs.YtbmcfodhjibooaaDoor
