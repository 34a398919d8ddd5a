/-
  The contract of the reader's node (package sawmillref21).
-/
import Derived.Test.YtbmcfodhjibooaaDoorPbF
import Derived.Test.YtbmcfodhjibooaaDoorPbD
namespace Go.Proofs.YtbmcfodhjibooaaDoor
open Go.RowKit Saw Go.Sort
/-- The reader, its nodes and its lexemes, behind the world w. -/
structure NrAt (w W : World) (rb Bn B : Nat) (lv v : Value) (xs : List Lx) (s : Ps) (acc : List Nd) : Prop where
  ps : IsRs W rb lv v s
  own : W.ownsRow Bn 64 2 v acc.length (ndCells acc)
  kp : Kp Bn rb w W
  lx : Lxs W B lv xs
  big : Bn ≤ W.heap.size
section
variable {w W w5 : World} {rb Bn B : Nat} {lv v : Value} {xs : List Lx} {s s' : Ps} {acc : List Nd}
theorem NrAt.gb (h : NrAt w W rb Bn B lv v xs s acc) (hB : B ≤ rb) (hrb : rb < Bn) (hp : IsRs w5 rb lv v s') (hg : W.grownBy w5 (some rb)) : NrAt w w5 rb Bn B lv v xs s' acc :=
  ⟨hp, h.own.kept hg (.inr fun e => by have := (own_at h.own e).1; omega), h.kp.trans (Kp.gb hg h.big fun g e => .inl (by injection e with e; exact e.symm)), h.lx.kept hg hB (by have := h.big; omega), Nat.le_trans h.big hg.size⟩
theorem NrAt.below (h : NrAt w W rb Bn B lv v xs s acc) (hB : B ≤ rb) (hrb : rb < Bn) (hg : Below W.heap.size W w5) : NrAt w w5 rb Bn B lv v xs s acc :=
  h.gb hB hrb (h.ps.below hg) (gb_below hg)
theorem NrAt.alloc (h : NrAt w W rb Bn B lv v xs s acc) (hB : B ≤ rb) (hrb : rb < Bn) (o : Obj) : NrAt w (W.alloc o) rb Bn B lv v xs s acc :=
  h.gb hB hrb (h.ps.alloc o) (World.grownBy_alloc W o _)
theorem NrAt.trans {w' : World} (h : NrAt w W rb Bn B lv v xs s acc) {v' : Value} {acc' : List Nd} (g : NrAt W w' rb Bn B lv v' xs s' acc') : NrAt w w' rb Bn B lv v' xs s' acc' :=
  ⟨g.ps, g.own, h.kp.trans g.kp, g.lx, g.big⟩
theorem NrAt.slice (h : NrAt w W rb Bn B lv v xs s acc) : ∃ A c, v = .slice A acc.length c := by
  rcases h.own.2 with ⟨rfl, h0⟩ | ⟨g, cap, cur, rfl, _⟩
  · rw [h0]; exact ⟨_, _, rfl⟩
  · exact ⟨_, _, rfl⟩
theorem NrAt.box (h : NrAt w W rb Bn B lv v xs s acc) (hB : B ≤ rb) (hrb : rb < Bn) {k p : Int} (hp : IsRs w5 rb lv v s') (hg : (W.alloc (.cells #[.int .i64 k, .int .i64 0] 64)).grownBy w5 (some rb)) :
    NrAt w (w5.setCell ⟨W.heap.size, 1, none⟩ (.int .i64 p)) rb Bn B lv v xs s' acc ∧ (w5.setCell ⟨W.heap.size, 1, none⟩ (.int .i64 p)).heap[W.heap.size]? = some (.cells #[.int .i64 k, .int .i64 p] 64 (0, 0)) := by
  have h4 := (h.alloc hB hrb (.cells #[.int .i64 k, .int .i64 0] 64)).gb hB hrb hp hg
  have hN : w5.heap[W.heap.size]? = some (.cells #[.int .i64 k, .int .i64 0] 64 (0, 0)) :=
    (hg.block _ (by rw [World.size_alloc]; omega) (fun e => by injection e; have := h.big; omega)).trans (heap_alloc_last W _)
  have hgs : w5.grownBy (w5.setCell ⟨W.heap.size, 1, none⟩ (.int .i64 p)) (some W.heap.size) := ⟨rfl, rfl, rfl, by simp [World.setCell], fun k hk hne => Below.heap_setCell _ _ _ _ (fun e => hne (by rw [e]))⟩
  have hrbW : rb < W.heap.size := by have := h.big; omega
  refine ⟨⟨(hgs.block rb (by have := h4.big; omega) (fun e => by injection e; omega)).trans h4.ps, h4.own.kept hgs (.inr fun e => ?_), h4.kp.trans (Kp.gb hgs h4.big fun g e => .inr (by injection e with e; have := h.big; omega)), Rd.keep h4.lx fun q hq => World.cell?_of_block (a := q) (hgs.block q.block (by have := h4.big; omega) (fun e => by injection e; have := h.big; omega)), Nat.le_trans h4.big hgs.size⟩, ?_⟩
  · obtain ⟨_, cur, hc⟩ := own_at h.own e
    have := (Array.getElem?_eq_some_iff.1 hc).1
    omega
  · rw [setCell_eq_setRow w5 _ 1 _ _ _ _ hN, setRow_heap _ _ _ _ _ _ hN]
    rfl
theorem NrAt.rbox (h : NrAt w W rb Bn B lv v xs s acc) (_hB : B ≤ rb) (hrb : rb < Bn) {k : Int} (hg : (W.alloc (.cells #[.int .i64 k, .int .i64 0] 64)).grownBy w5 (some rb)) :
    w5.heap[W.heap.size]? = some (.cells #[.int .i64 k, .int .i64 0] 64 (0, 0)) :=
  (hg.block _ (by rw [World.size_alloc]; omega) (fun e => by injection e; have := h.big; omega)).trans (heap_alloc_last W _)
theorem NrAt.next {o : Obj} (h : NrAt w W rb Bn B lv v xs s acc) : (W.alloc o).drew.ownsRow Bn 64 2 v acc.length (ndCells acc) := World.ownsRow.alloc h.own o
theorem NrAt.ps7 {o : Obj} (h : NrAt w W rb Bn B lv v xs s acc) (hrb : rb < Bn) (hg : (W.alloc o).drew.grownBy w5 v.ownBlock) : IsRs w5 rb lv v s :=
  (hg.block rb (by show rb < (W.alloc o).heap.size; rw [World.size_alloc]; have := h.big; omega) (fun e => by have := (own_at h.own e.symm).1; omega)).trans (h.ps.alloc o)
theorem NrAt.c7 {o : Obj} (h : NrAt w W rb Bn B lv v xs s acc) (hrb : rb < Bn) (hg : (W.alloc o).drew.grownBy w5 v.ownBlock) : w5.cell? ⟨rb, 4, none⟩ = some v ∧ w5.frozen? ⟨rb, 4, none⟩ = false :=
  ⟨(h.ps7 hrb hg).cells.2.2.2.2.1, (h.ps7 hrb hg).cells.2.2.2.2.2.1 4⟩
theorem NrAt.app {o : Obj} {v' : Value} {k p : Int} (h : NrAt w W rb Bn B lv v xs s acc) (hB : B ≤ rb) (hrb : rb < Bn) (hg : (W.alloc o).drew.grownBy w5 v.ownBlock) (hown : w5.ownsRow Bn 64 2 v' (acc.length + 1) (ndCells acc ++ [.int .i64 k, .int .i64 p])) :
    NrAt w (w5.setCell ⟨rb, 4, none⟩ v') rb Bn B lv v' xs s (acc ++ [⟨k, p⟩]) := by
  have hgs : w5.grownBy (w5.setCell ⟨rb, 4, none⟩ v') (some rb) := ⟨rfl, rfl, rfl, by simp [World.setCell], fun j _ hne => Below.heap_setCell _ _ _ _ (fun e => hne (by rw [e]))⟩
  have hga : W.grownBy (W.alloc o).drew none := gb_drew (World.grownBy_alloc W o none)
  have hz5 := hg.size
  have hza : (W.alloc o).drew.heap.size = W.heap.size + 1 := World.size_alloc W o
  have hb := h.big
  have hown' : w5.ownsRow Bn 64 2 v' (acc ++ ([⟨k, p⟩] : List Nd)).length (ndCells (acc ++ ([⟨k, p⟩] : List Nd))) := by
    rw [List.length_append, ndCells_app]
    exact hown
  refine ⟨(h.ps7 hrb hg).setN v', hown'.kept hgs (.inr fun e => by have := (own_at hown' e).1; omega), ((h.kp.trans (Kp.gb hga hb nofun)).trans (Kp.gb hg (by omega) fun g e => .inr (own_at h.own e).1)).trans (Kp.gb hgs (by omega) fun g e => .inl (by injection e with e; exact e.symm)), Rd.keep h.lx fun q hq => ?_, by have := hgs.size; omega⟩
  exact World.cell?_of_block (a := q) (((hgs.block q.block (by omega) (fun e => by injection e; omega)).trans (hg.block q.block (by omega) (fun e => by have := (own_at h.own e.symm).1; omega))).trans (hga.block q.block (by omega) nofun))
end
theorem NrAt.here {w W : World} {rb Bn B : Nat} {lv v : Value} {xs : List Lx} {s : Ps} {acc : List Nd} (h : NrAt w W rb Bn B lv v xs s acc) : NrAt W W rb Bn B lv v xs s acc := ⟨h.ps, h.own, Kp.refl _ _ _, h.lx, h.big⟩

theorem own_set {w : World} {B g n cap size : Nat} {e : TypeId} {xs : List Value} (h : w.ownsRow B e size (.slice (some ⟨g, 0, none⟩) n cap) n xs) {i : Nat} (hi : i < xs.length) (v : Value) : (w.setCell ⟨g, i, none⟩ v).ownsRow B e size (.slice (some ⟨g, 0, none⟩) n cap) n (xs.set i v) ∧ w.cell? ⟨g, i, none⟩ = some xs[i] ∧ w.frozen? ⟨g, i, none⟩ = false := by
  obtain ⟨hl, h2⟩ := h
  rcases h2 with ⟨e1, _⟩ | ⟨g', cap', cur, e1, hb, hg, h3, h4, h5, h6⟩
  · cases e1
  · injection e1 with e1 _ e2
    injection e1 with e1
    injection e1 with e1
    subst e1 e2
    have hlt : i < n * size := by rw [← hl]; exact hi
    have hcs : i < cur.size := by
      have : n * size ≤ cap * size := Nat.mul_le_mul_right size h3
      omega
    refine ⟨⟨by rw [List.length_set]; exact hl, .inr ⟨g, cap, cur.setIfInBounds i v, rfl, hb, ?_, h3, h4, by rw [Array.size_setIfInBounds]; exact h5, ?_⟩⟩, ?_, frz hg i⟩
    · rw [setCell_eq_setRow w g i _ _ _ _ hg, setRow_heap _ _ _ _ _ _ hg]
    · rw [Array.toList_setIfInBounds, List.take_set, h6]
    · refine cell_of_box hg ?_
      have h7 : cur.toList[i]? = some xs[i] := by
        have h8 : (cur.toList.take (n * size))[i]? = some xs[i] := by rw [h6]; exact List.getElem?_eq_getElem hi
        rw [List.getElem?_take_of_lt hlt] at h8
        exact h8
      rw [← Array.getElem?_toList]
      exact h7
theorem ndCells_set (acc : List Nd) (k p q : Int) : (ndCells (acc ++ [⟨k, p⟩])).set (acc.length * 2 + 1) (.int .i64 q) = ndCells (acc ++ [⟨k, q⟩]) := by
  rw [ndCells_app, ndCells_app, List.set_append_right _ _ (by rw [ndCells_length]; omega), ndCells_length, show acc.length * 2 + 1 - acc.length * 2 = 1 by omega]
  rfl
theorem ndCells_snoc_lt (acc : List Nd) (k p : Int) : acc.length * 2 + 1 < (ndCells (acc ++ [⟨k, p⟩])).length := by
  rw [ndCells_length, List.length_append, List.length_singleton]; omega
/-- The place of the last node is written. -/
theorem NrAt.put {w W : World} {rb Bn B g cap : Nat} {lv : Value} {xs : List Lx} {s : Ps} {acc : List Nd} {k p : Int} (h : NrAt w W rb Bn B lv (.slice (some ⟨g, 0, none⟩) (acc.length + 1) cap) xs s (acc ++ [⟨k, p⟩])) (hB : B ≤ rb) (hrb : rb < Bn) (q : Int) :
    NrAt w (W.setCell ⟨g, acc.length * 2 + 1, none⟩ (.int .i64 q)) rb Bn B lv (.slice (some ⟨g, 0, none⟩) (acc.length + 1) cap) xs s (acc ++ [⟨k, q⟩]) ∧ W.cell? ⟨g, acc.length * 2 + 1, none⟩ = some (.int .i64 p) ∧ W.frozen? ⟨g, acc.length * 2 + 1, none⟩ = false ∧ Bn ≤ g ∧ g < W.heap.size := by
  have hl : ∀ q, (acc ++ [(⟨k, q⟩ : Nd)]).length = acc.length + 1 := fun q => by rw [List.length_append, List.length_singleton]
  have ho := h.own
  rw [hl] at ho
  have hgb := (own_at ho (g := g) rfl).1
  obtain ⟨_, cur, hcur⟩ := own_at ho (g := g) rfl
  have hgw := (Array.getElem?_eq_some_iff.1 hcur).1
  obtain ⟨o1, o2, o3⟩ := own_set ho (ndCells_snoc_lt acc k p) (.int .i64 q)
  have hg : W.grownBy (W.setCell ⟨g, acc.length * 2 + 1, none⟩ (.int .i64 q)) (some g) := ⟨rfl, rfl, rfl, by simp [World.setCell], fun j _ hne => Below.heap_setCell _ _ _ _ (fun e => hne (by rw [e]))⟩
  have hbig := h.big
  refine ⟨⟨(hg.block rb (by omega) (fun e => by injection e; omega)).trans h.ps, ?_, h.kp.trans (Kp.gb hg hbig fun j e => .inr (by injection e with e; omega)), Rd.keep h.lx fun r hr => World.cell?_of_block (a := r) (hg.block r.block (by omega) (fun e => by injection e; omega)), Nat.le_trans hbig hg.size⟩, ?_, o3, hgb, hgw⟩
  · rw [hl, ← ndCells_set acc k p q]
    exact o1
  · have h9 : (ndCells (acc ++ [(⟨k, p⟩ : Nd)]))[acc.length * 2 + 1]? = some (.int .i64 p) := by
      have := (nds_at (acc ++ [⟨k, p⟩]) acc.length ⟨k, p⟩ (by rw [List.getElem?_append_right (Nat.le_refl _), Nat.sub_self]; rfl)).2
      exact this
    rw [o2]
    rw [List.getElem?_eq_getElem (ndCells_snoc_lt acc k p)] at h9
    exact h9
def NrPost (w : World) (rb Bn B : Nat) (lv : Value) (xs : List Lx) (r : Ps × List Nd) (e : Ending) (w' : World) : Prop :=
  (∃ u, e = .returned u) ∧ ∃ v accR, NrAt w w' rb Bn B lv v xs r.1 accR ∧ accR.length = r.2.length ∧ accR.length ≤ 127 ∧ (r.1.e = 0 → accR = r.2)
def NodeRk (xs : List Lx) (rb Bn B : Nat) (lv : Value) (f : Nat) : Prop :=
  ∀ (lev : Int) (s : Ps) (acc accR : List Nd) (w : World) (v : Value), 65 ≤ lev + f → 1 ≤ lev → lev ≤ 65 → s.k < xs.length → accR.length ≤ 127 → accR.length = acc.length → (s.e = 0 → accR = acc) → NrAt w w rb Bn B lv v xs s accR →
      Calls Tryd.prog 70 #[.pointer (some ⟨rb, 0, none⟩), .int .i64 lev] w (NrPost w rb Bn B lv xs (nodeQ xs f lev s acc))
/-- The word of a node as a number; -1 where there is none. -/
def kindN (x : Lx) : Int := match kindQ x with
  | some k => k
  | none => -1
theorem kindN_some {x : Lx} (h : ¬ kindN x < 0) : kindQ x = some (kindN x) := by
  unfold kindN at *
  cases hq : kindQ x with
  | none => rw [hq] at h; exact absurd (by decide) h
  | some k => rfl
theorem kindN_none {x : Lx} (h : kindN x < 0) : kindQ x = none := by
  unfold kindN at *
  cases hq : kindQ x with
  | none => rfl
  | some k => rw [hq] at h; have := (kindQ_some hq).2.1; simp only at h; omega
theorem lxIs_str (x : Lx) (t : ByteArray) (h : x.kind = 1) : lxIs x 1 (bts t) = true ↔ (str x.text).toList = t.toList := by
  rw [lxIs, beq_iff_eq.2 h, Bool.true_and, ← str_ne, beq_iff_eq]
theorem kind_cases (x : Lx) : ((x.kind == 1) = false ∧ kindN x = -1) ∨ ((x.kind == 1) = true ∧
    (((str x.text).toList = (⟨#[119, 97, 115, 116, 101]⟩ : ByteArray).toList ∧ kindN x = 0) ∨
     (¬ (str x.text).toList = (⟨#[119, 97, 115, 116, 101]⟩ : ByteArray).toList ∧ (str x.text).toList = (⟨#[98, 111, 97, 114, 100]⟩ : ByteArray).toList ∧ kindN x = 1) ∨
     (¬ (str x.text).toList = (⟨#[119, 97, 115, 116, 101]⟩ : ByteArray).toList ∧ ¬ (str x.text).toList = (⟨#[98, 111, 97, 114, 100]⟩ : ByteArray).toList ∧ (str x.text).toList = (⟨#[120]⟩ : ByteArray).toList ∧ kindN x = 2) ∨
     (¬ (str x.text).toList = (⟨#[119, 97, 115, 116, 101]⟩ : ByteArray).toList ∧ ¬ (str x.text).toList = (⟨#[98, 111, 97, 114, 100]⟩ : ByteArray).toList ∧ ¬ (str x.text).toList = (⟨#[120]⟩ : ByteArray).toList ∧ (str x.text).toList = (⟨#[121]⟩ : ByteArray).toList ∧ kindN x = 3) ∨
     (¬ (str x.text).toList = (⟨#[119, 97, 115, 116, 101]⟩ : ByteArray).toList ∧ ¬ (str x.text).toList = (⟨#[98, 111, 97, 114, 100]⟩ : ByteArray).toList ∧ ¬ (str x.text).toList = (⟨#[120]⟩ : ByteArray).toList ∧ ¬ (str x.text).toList = (⟨#[121]⟩ : ByteArray).toList ∧ kindN x = -1))) := by
  by_cases h1 : x.kind = 1
  · right
    refine ⟨by rw [beq_iff_eq]; exact h1, ?_⟩
    have e1 := lxIs_str x ⟨#[119, 97, 115, 116, 101]⟩ h1
    have e2 := lxIs_str x ⟨#[98, 111, 97, 114, 100]⟩ h1
    have e3 := lxIs_str x ⟨#[120]⟩ h1
    have e4 := lxIs_str x ⟨#[121]⟩ h1
    rw [show bts ⟨#[119, 97, 115, 116, 101]⟩ = wasteW from rfl] at e1
    rw [show bts ⟨#[98, 111, 97, 114, 100]⟩ = boardW from rfl] at e2
    rw [show bts ⟨#[120]⟩ = [120] from rfl] at e3
    rw [show bts ⟨#[121]⟩ = [121] from rfl] at e4
    rw [← e1, ← e2, ← e3, ← e4]
    unfold kindN kindQ
    cases lxIs x 1 wasteW <;> cases lxIs x 1 boardW <;> cases lxIs x 1 [120] <;> cases lxIs x 1 [121] <;> simp
  · left
    refine ⟨by rw [beq_eq_false_iff_ne]; exact h1, ?_⟩
    have hz : ∀ t, lxIs x 1 t = false := fun t => by rw [lxIs, show (x.kind == 1) = false by rw [beq_eq_false_iff_ne]; exact h1]; rfl
    unfold kindN kindQ
    simp [hz]
theorem gb_undrew {a b : World} {row : Option Nat} (h : a.grownBy b row) : a.drew.grownBy b row := ⟨h.os, h.tape, h.output, h.size, h.block⟩
theorem takeQ_e {xs : List Lx} {s : Ps} {k : Int} {u : List UInt8} (h : (takeQ xs s k u).e = 0) : s.e = 0 := by
  by_cases hs : s.e = 0
  · exact hs
  · rw [takeQ_bad hs] at h; exact h

set_option maxRecDepth 100000 in
set_option maxHeartbeats 16000000 in
theorem nodeR_step (xs : List Lx) (hend : LxEnds xs) (hk : xs.length < 1000000) (hnm : ∀ x ∈ xs, 0 ≤ x.num ∧ x.num ≤ 1099511627776) (rb Bn B : Nat) (lv : Value) (hB : B ≤ rb) (hrb : rb < Bn) (f : Nat) (ih : ∀ f', f = f' + 1 → NodeRk xs rb Bn B lv f') : NodeRk xs rb Bn B lv f := by
  intro lev s acc accR w v hf hl1 hl65 hsk hal hall hacc hat
  obtain ⟨R, hR⟩ : ∃ R, nodeQ xs f lev s acc = R := ⟨_, rfl⟩
  rw [hR]
  obtain ⟨c0, c1, c2, c3, c4, cf, hrs⟩ := hat.ps.cells
  by_cases hse0 : s.e ≠ 0
  · have heb : (s.e != 0) = true := by rw [bne_iff_ne]; exact hse0
    have HZ := Lib.hid (show R = (s, acc) by rw [← hR]; exact nodeQ_stay hse0)
    have HS := Lib.hid hat
    have HALL := Lib.hid hall
    have HACC := Lib.hid hacc
    clear hat hR ih hse0 hall hacc
    go_enter Tryd.func70, Tryd.ntmps70
    go_wp2_with fail
    refine bodyPost_ret (results_none rfl _ _ _) rfl ?_
    rw [HZ.out]
    exact ⟨⟨_, rfl⟩, _, _, HS.out, HALL.out, hal, HACC.out⟩
  · have hse0 : s.e = 0 := Decidable.of_not_not hse0
    have heb : (s.e != 0) = false := by rw [bne_eq_false_iff_eq]; exact hse0
    have hae := hacc hse0
    subst hae
    clear hacc hall
    have HEND := Lib.hid hend
    have HNM := Lib.hid hnm
    have HIH := Lib.hid ih
    have HS := Lib.hid hat
    obtain ⟨b, o, cp, rfl, hb, d0, d1, d2, d3⟩ := lx_cells hat.lx hsk
    obtain ⟨x, hx⟩ : ∃ x, lxAt xs s.k = x := ⟨_, rfl⟩
    rw [hx] at d0 d1 d2 d3
    obtain ⟨off, hoff⟩ : ∃ off, x.off = off := ⟨_, rfl⟩
    rw [hoff] at d3
    have hbw : b < w.heap.size := by omega
    obtain ⟨s1, hs1⟩ : ∃ s1, nd1 xs s = s1 := ⟨_, rfl⟩
    have hs1k : s1.k < xs.length := by rw [← hs1]; exact takeQ_in hend (by decide) hsk
    have h3 : nd3 xs lev accR.length s = if 64 < lev then failQ (if 127 ≤ accR.length then failQ s1 4 off else s1) 28 off else (if 127 ≤ accR.length then failQ s1 4 off else s1) := by rw [nd3, nd2, hs1, hx, hoff]
    have HBAD := Lib.hid (fun (t : Ps) (h : nd3 xs lev accR.length s = t) (h2 : t.e ≠ 0) => (show R = (t, accR) from hR.symm.trans (nodeQ_bad h h2)))
    have HMK := Lib.hid (fun (W : World) (u : Value) (hr : IsRs W rb (.slice (some ⟨b, o, none⟩) xs.length cp) u s) (hl : Lxs W B (.slice (some ⟨b, o, none⟩) xs.length cp) xs) => (show Calls Tryd.prog 96 #[.pointer (some ⟨rb, 0, none⟩), .string ⟨#[123]⟩] W (RsDone W rb (.slice (some ⟨b, o, none⟩) xs.length cp) u s1) by
      have := mark_rs W rb B _ u s xs ⟨#[123]⟩ hr hl hB hsk hk
      rw [show bts ⟨#[123]⟩ = [123] from rfl, show takeQ xs s 3 [123] = s1 from hs1] at this
      exact this))
    have H3 := Lib.hid h3
    have HRR := Lib.hid hR
    have hkb : s.k < 1000000 := by omega
    have hml : xs.length ≤ 1000000 := by omega
    obtain ⟨A4, c4', hv4⟩ := hat.slice
    subst hv4
    clear hend hnm ih hat hR hx hoff hs1 h3 hse0
    go_enter Tryd.func70, Tryd.ntmps70
    go_wp2_with fail
    go_quiet (fail)
    go_wp2_with fail
    generalize hW1 : w.drewN nq = W1
    have hs1' : NrAt w W1 rb Bn B (.slice (some ⟨b, o, none⟩) xs.length cp) (.slice A4 accR.length c4') xs s accR := hW1 ▸ HS.out.below hB hrb (below_drewNn (Below.refl _ _) nq)
    have HS1 := Lib.hid hs1'
    clear hW1 hs1' c0 c1 c2 c3 c4 cf hrs d0 d1 d2 d3
    refine (HMK.out W1 _ HS1.out.ps HS1.out.lx).mono ?_
    rintro e1 w2 ⟨⟨u2, he⟩, hi2, hg2⟩
    subst he
    have HS2 := Lib.hid (HS1.out.gb hB hrb hi2 hg2)
    clear hi2 hg2 HMK
    obtain ⟨c0, c1, c2, c3, c4, cf, hrs⟩ := HS2.out.ps.cells
    by_cases he1 : s1.e = 0
    · have heb1 : (s1.e == 0) = true := by rw [beq_iff_eq]; exact he1
      have heb2 : (s1.e != 0) = false := by rw [bne_eq_false_iff_eq]; exact he1
      by_cases hfull : 127 ≤ accR.length
      · have hfb : (127 : Int) ≤ accR.length := by omega
        have hse : (failQ s1 4 off).e ≠ 0 := failQ_e (by decide)
        have HZ := Lib.hid (HBAD.out (failQ s1 4 off) (by
          rw [H3.out, if_pos hfull]
          split
          · exact failQ_bad hse _ _
          · rfl) hse)
        obtain ⟨s2, hs2⟩ : ∃ s2, failQ s1 4 off = s2 := ⟨_, rfl⟩
        rw [hs2] at HZ hse
        have HS2' := Lib.hid hs2
        have he3 : (s2.e == 0) = false := by rw [beq_eq_false_iff_ne]; exact hse
        have he4 : (s2.e != 0) = true := by rw [bne_iff_ne]; exact hse
        have HSE := Lib.hid hse
        clear hs2 hse he1 hfull
        go_wp2_with fail
        refine (fail_rs w2 rb _ _ s1 4 off HS2.out.ps).mono ?_
        rintro e1 w3 ⟨⟨u3, he⟩, hi3, hg3⟩
        subst he
        rw [HS2'.out] at hi3
        have HS3 := Lib.hid (HS2.out.gb hB hrb hi3 hg3)
        clear hi3 hg3 c0 c1 c2 c3 c4 cf hrs
        obtain ⟨c0, c1, c2, c3, c4, cf, hrs⟩ := HS3.out.ps.cells
        go_wp2_with fail
        refine bodyPost_ret (results_none rfl _ _ _) rfl ?_
        rw [HZ.out]
        exact ⟨⟨_, rfl⟩, _, _, HS3.out, rfl, hal, fun _ => rfl⟩
      · have hfb : ¬ (127 : Int) ≤ accR.length := by omega
        by_cases hdp : 64 < lev
        · have hse : (failQ s1 28 off).e ≠ 0 := failQ_e (by decide)
          have HZ := Lib.hid (HBAD.out (failQ s1 28 off) (by rw [H3.out, if_neg hfull, if_pos hdp]) hse)
          obtain ⟨s2, hs2⟩ : ∃ s2, failQ s1 28 off = s2 := ⟨_, rfl⟩
          rw [hs2] at HZ hse
          have HS2' := Lib.hid hs2
          have he4 : (s2.e != 0) = true := by rw [bne_iff_ne]; exact hse
          clear hs2 hse he1 hfull
          go_wp2_with fail
          refine (fail_rs w2 rb _ _ s1 28 off HS2.out.ps).mono ?_
          rintro e1 w3 ⟨⟨u3, he⟩, hi3, hg3⟩
          subst he
          rw [HS2'.out] at hi3
          have HS3 := Lib.hid (HS2.out.gb hB hrb hi3 hg3)
          clear hi3 hg3 c0 c1 c2 c3 c4 cf hrs
          obtain ⟨c0, c1, c2, c3, c4, cf, hrs⟩ := HS3.out.ps.cells
          go_wp2_with fail
          refine bodyPost_ret (results_none rfl _ _ _) rfl ?_
          rw [HZ.out]
          exact ⟨⟨_, rfl⟩, _, _, HS3.out, rfl, hal, fun _ => rfl⟩
        · have h3 : nd3 xs lev accR.length s = s1 := by rw [H3.out, if_neg hdp, if_neg hfull]
          obtain ⟨f', hff⟩ : ∃ f', f = f' + 1 := ⟨f - 1, by omega⟩
          have HOK := Lib.hid (HIH.out f' hff)
          subst hff
          have HH3 := Lib.hid h3
          have HE1 := Lib.hid he1
          have hal6 : accR.length < 127 := by omega
          obtain ⟨b', o', cp', e0, _, d0, d1, d2, d3⟩ := lx_cells HS2.out.lx hs1k
          injection e0 with e0 e00 e01
          injection e0 with e0
          injection e0 with e0 e02
          subst e0 e02 e01
          clear e00
          obtain ⟨x3, hx3⟩ : ∃ x3, lxAt xs s1.k = x3 := ⟨_, rfl⟩
          rw [hx3] at d0 d1 d2 d3
          have HX3 := Lib.hid hx3
          have hbw2 : b < w2.heap.size := by have := HS2.out.kp.size; omega
          have hkb1 : s1.k < 1000000 := by omega
          clear h3 he1 hfull hx3 HIH H3 HBAD
          go_wp2_with fail
          go_region
          go_upto_if 71 with fail
          obtain ⟨N, hN⟩ : ∃ N, w2.heap.size = N := ⟨_, rfl⟩
          obtain ⟨W3, hW3⟩ : ∃ W3, (w2.alloc (.cells #[.int .i64 x3.kind, .string (str x3.text), .int .i64 x3.num, .int .i64 x3.off] 109)).drew = W3 := ⟨_, rfl⟩
          have hs3 : NrAt w W3 rb Bn B (.slice (some ⟨b, o, none⟩) xs.length cp) (.slice A4 accR.length c4') xs s1 accR := hW3 ▸ HS2.out.below hB hrb (bel_drew (bel_alloc (Below.refl _ _)))
          have hbx : W3.heap[N]? = some (lxO x3) := by rw [← hW3, ← hN]; exact heap_alloc_last w2 (lxO x3)
          rw [hW3, hN]
          have HS3 := Lib.hid hs3
          have HBX := Lib.hid hbx
          obtain ⟨z0, z1, z2, z3⟩ := cells4 hbx
          have hNW : N < W3.heap.size := (Array.getElem?_eq_some_iff.1 hbx).1
          clear hW3 hN hs3 hbx c0 c1 c2 c3 c4 cf hrs d0 d1 d2 d3 hbw2
          obtain ⟨c0, c1, c2, c3, c4, cf, hrs⟩ := HS3.out.ps.cells
          obtain ⟨kk, hkk⟩ : ∃ kk, kindN x3 = kk := ⟨_, rfl⟩
          have hcases := kind_cases x3
          rw [hkk] at hcases
          have HKC := Lib.hid hcases
          have HKK := Lib.hid hkk
          clear hcases hkk
          go_cut [6] from 8 (fun s6 wx => s6 = .int .i64 kk ∧ wx = W3)
          case first =>
            have L1 : (⟨#[119, 97, 115, 116, 101]⟩ : ByteArray).toList = [119, 97, 115, 116, 101] := toList_bts _
            have L2 : (⟨#[98, 111, 97, 114, 100]⟩ : ByteArray).toList = [98, 111, 97, 114, 100] := toList_bts _
            have L3 : (⟨#[120]⟩ : ByteArray).toList = [120] := toList_bts _
            have L4 : (⟨#[121]⟩ : ByteArray).toList = [121] := toList_bts _
            have HKD := HKC.out
            rw [L1, L2, L3, L4] at HKD
            clear L1 L2 L3 L4
            rcases HKD with ⟨t0, e0⟩ | ⟨t0, ⟨t1, e0⟩ | ⟨t1, t2, e0⟩ | ⟨t1, t2, t3, e0⟩ | ⟨t1, t2, t3, t4, e0⟩ | ⟨t1, t2, t3, t4, e0⟩⟩
            · skip
              have HE0 := Lib.hid e0
              clear e0
              go_wp2_with fail
              all_goals
                first
                  | (exfalso; simp_all; done)
                  | (go_meet
                     case rel => exact ⟨by rw [HE0.out], rfl⟩)
            · skip
              have HE0 := Lib.hid e0
              clear e0
              go_wp2_with fail
              all_goals
                first
                  | (exfalso; simp_all; done)
                  | (go_meet
                     case rel => exact ⟨by rw [HE0.out], rfl⟩)
            · skip
              have HE0 := Lib.hid e0
              clear e0
              go_wp2_with fail
              all_goals
                first
                  | (exfalso; simp_all; done)
                  | (go_meet
                     case rel => exact ⟨by rw [HE0.out], rfl⟩)
            · skip
              have HE0 := Lib.hid e0
              clear e0
              go_wp2_with fail
              all_goals
                first
                  | (exfalso; simp_all; done)
                  | (go_meet
                     case rel => exact ⟨by rw [HE0.out], rfl⟩)
            · skip
              have HE0 := Lib.hid e0
              clear e0
              go_wp2_with fail
              all_goals
                first
                  | (exfalso; simp_all; done)
                  | (go_meet
                     case rel => exact ⟨by rw [HE0.out], rfl⟩)
            · skip
              have nb1 : ((str x3.text).toList == [119, 97, 115, 116, 101]) = false := by rw [beq_eq_false_iff_ne]; exact t1
              have nc1 : ((str x3.text).toList == (⟨#[119, 97, 115, 116, 101]⟩ : ByteArray).toList) = false := by rw [show (⟨#[119, 97, 115, 116, 101]⟩ : ByteArray).toList = [119, 97, 115, 116, 101] from toList_bts _]; exact nb1
              have nb2 : ((str x3.text).toList == [98, 111, 97, 114, 100]) = false := by rw [beq_eq_false_iff_ne]; exact t2
              have nc2 : ((str x3.text).toList == (⟨#[98, 111, 97, 114, 100]⟩ : ByteArray).toList) = false := by rw [show (⟨#[98, 111, 97, 114, 100]⟩ : ByteArray).toList = [98, 111, 97, 114, 100] from toList_bts _]; exact nb2
              have nb3 : ((str x3.text).toList == [120]) = false := by rw [beq_eq_false_iff_ne]; exact t3
              have nc3 : ((str x3.text).toList == (⟨#[120]⟩ : ByteArray).toList) = false := by rw [show (⟨#[120]⟩ : ByteArray).toList = [120] from toList_bts _]; exact nb3
              have nb4 : ((str x3.text).toList == [121]) = false := by rw [beq_eq_false_iff_ne]; exact t4
              have nc4 : ((str x3.text).toList == (⟨#[121]⟩ : ByteArray).toList) = false := by rw [show (⟨#[121]⟩ : ByteArray).toList = [121] from toList_bts _]; exact nb4
              have HE0 := Lib.hid e0
              clear e0
              go_wp2_with fail
              all_goals
                first
                  | (exfalso; simp_all; done)
                  | (go_meet
                     case rel => exact ⟨by rw [HE0.out], rfl⟩)
          case rest =>
            obtain ⟨rfl, rfl⟩ := hcut
            by_cases hkn : kk < 0
            · have hkq := kindN_none (x := x3) (by rw [HKK.out]; exact hkn)
              have HZ := Lib.hid (show R = (failQ s1 5 x3.off, accR) from HRR.out.symm.trans (by rw [nodeQ_none HH3.out HE1.out (HX3.out.symm ▸ hkq), HX3.out]))
              clear hkq
              go_wp2_with fail
              refine (fail_rs _ rb _ _ s1 5 x3.off HS3.out.ps).mono ?_
              rintro e1 w4 ⟨⟨u4, he⟩, hi4, hg4⟩
              subst he
              have HS4 := Lib.hid (HS3.out.gb hB hrb hi4 hg4)
              clear hi4 hg4
              go_wp2_with fail
              refine bodyPost_ret (results_none rfl _ _ _) rfl ?_
              rw [HZ.out]
              exact ⟨⟨_, rfl⟩, _, _, HS4.out, rfl, hal, fun _ => rfl⟩
            · have hkq := kindN_some (x := x3) (by rw [HKK.out]; exact hkn)
              rw [HKK.out] at hkq
              have hk13 := kindQ_some hkq
              have hsk2 : s1.k + 1 < xs.length := HEND.out s1.k x3 (HX3.out ▸ lxAt_some hs1k) (by rw [hk13.1]; decide)
              have hk0 : 0 ≤ kk ∧ kk ≤ 3 := ⟨hk13.2.1, hk13.2.2.1⟩
              clear hk13
              have HKQ := Lib.hid hkq
              clear hkq
              obtain ⟨i0, hi0, hq0, hq1, hq2⟩ := info_parts nd_infoE
              have HS4 := Lib.hid (show NrAt w (wc.setCell ⟨rb, 1, none⟩ (.int .i64 (s1.k + 1))) rb Bn B (.slice (some ⟨b, o, none⟩) xs.length cp) (.slice A4 accR.length c4') xs ⟨s1.k + 1, 0, s1.off⟩ accR from HS3.out.gb hB hrb (HE1.out ▸ HS3.out.ps.setK (k := s1.k + 1) (by simp)) (gb_cell gb_refl))
              have HNB := Lib.hid (show ((wc.setCell ⟨rb, 1, none⟩ (.int .i64 (s1.k + 1))).alloc (.cells #[.int .i64 kk, .int .i64 0] 64)).heap[wc.heap.size]? = some (.cells #[.int .i64 kk, .int .i64 0] 64 (0, 0)) by
                have h := heap_alloc_last (wc.setCell ⟨rb, 1, none⟩ (.int .i64 (s1.k + 1))) (.cells #[.int .i64 kk, .int .i64 0] 64)
                rw [show (wc.setCell ⟨rb, 1, none⟩ (.int .i64 (s1.k + 1))).heap.size = wc.heap.size by simp [World.setCell]] at h
                exact h)
              have HBW4 := Lib.hid (show Bn ≤ ((wc.setCell ⟨rb, 1, none⟩ (.int .i64 (s1.k + 1))).alloc (.cells #[.int .i64 kk, .int .i64 0] 64)).heap.size by have := HS4.out.big; rw [World.size_alloc]; omega)
              go_upto_region 25 with (at_builtin; refine wpList_append_lies _ (by rfl) (.tmp 104) (.tmp 107) 26 (by rfl) Bn 64 i0 _ 2 16 Tryd.underlying26 hi0 hq0 hq1 hq2 rfl (by omega) (.slice A4 accR.length c4') accR.length (ndCells accR) (by rfl) (World.ownsRow.alloc HS4.out.own _) ⟨wc.heap.size, 0, none⟩ 1 1 [.int .i64 kk, .int .i64 0] (by rfl) (by rfl) (World.news_of_block (cs := #[.int .i64 kk, .int .i64 0]) (t := 64) (fr := (0, 0)) HNB.out) (nd_mem2 kk 0) (by omega) (by simp only [maxLen]; omega) (by omega) HBW4.out _ rfl ?_; intro gg cap w9 hown9 hgrow hat9 hlt9; obtain ⟨c79, f79⟩ := HS4.out.c7 hrb (gb_undrew hgrow))
              have HS5 := Lib.hid (HS4.out.app hB hrb (k := kk) (p := 0) (gb_undrew hgrow) hown9)
              obtain ⟨W5, hW5⟩ : ∃ W5, w9.setCell ⟨rb, 4, none⟩ (.slice (some ⟨gg, 0, none⟩) (accR.length + 1) cap) = W5 := ⟨_, rfl⟩
              rw [hW5] at HS5
              rw [hW5]
              clear hown9 hgrow hat9 hlt9 c79 f79 hW5 c0 c1 c2 c3 c4 cf hrs HS4 HBW4 HNB z0 z1 z2 z3
              obtain ⟨c0, c1, c2, c3, c4, cf, hrs⟩ := HS5.out.ps.cells
              have hkq := HKQ.out
              have hkv : kk = 0 ∨ kk = 1 ∨ kk = 2 ∨ kk = 3 := by omega
              clear HKQ HKC hk0
              rcases hkv with rfl | rfl | rfl | rfl
              · have HR9 := Lib.hid (show R = (takeQ xs ⟨s1.k + 1, 0, s1.off⟩ 3 [125], accR ++ [⟨0, 0⟩]) from HRR.out.symm.trans (nodeQ_leaf HH3.out HE1.out (HX3.out.symm ▸ hkq) rfl rfl))
                clear hkq
                go_wp2_with fail
                refine (mark_rs W5 rb B _ _ ⟨s1.k + 1, 0, s1.off⟩ xs ⟨#[125]⟩ HS5.out.ps HS5.out.lx hB hsk2 hk).mono ?_
                rintro e1 w13 ⟨⟨u13, he⟩, hi13, hg13⟩
                subst he
                have HS13 := Lib.hid (HS5.out.gb hB hrb hi13 hg13)
                clear hi13 hg13
                go_wp2_with fail
                refine bodyPost_ret (results_none rfl _ _ _) rfl ?_
                rw [HR9.out]
                exact ⟨⟨_, rfl⟩, _, _, HS13.out, by simp only [List.length_append, List.length_singleton], by rw [List.length_append, List.length_singleton]; omega, fun _ => rfl⟩
              · obtain ⟨⟨p, s4⟩, hpr⟩ : ∃ pr, posQ xs 1 ⟨s1.k + 1, 0, s1.off⟩ = pr := ⟨_, rfl⟩
                have hs4k : s4.k < xs.length := by
                  have := posQ_in HEND.out (k := 1) (s := ⟨s1.k + 1, 0, s1.off⟩) hsk2
                  rw [hpr] at this
                  exact this
                obtain ⟨pw, hpw⟩ : ∃ pw, numW (p, s4) = pw := ⟨_, rfl⟩
                have HPW := Lib.hid (show s4.e = 0 → pw = p from fun h => by rw [← hpw, numW, if_pos h])
                have HNUM := Lib.hid (fun (W : World) (h : NrAt w W rb Bn B (.slice (some ⟨b, o, none⟩) xs.length cp) (.slice (some ⟨gg, 0, none⟩) (accR.length + 1) cap) xs ⟨s1.k + 1, 0, s1.off⟩ (accR ++ [⟨1, 0⟩])) => (show Calls Tryd.prog 68 #[.pointer (some ⟨rb, 0, none⟩), .int .i64 0, .int .i64 15] W (RsPost W rb (.slice (some ⟨b, o, none⟩) xs.length cp) (.slice (some ⟨gg, 0, none⟩) (accR.length + 1) cap) s4 (.int .i64 pw)) by
                  have := number_rs W rb B _ _ ⟨s1.k + 1, 0, s1.off⟩ xs 0 15 h.ps h.lx hB HEND.out hsk2 hk HNM.out
                  rw [show numQ xs ⟨s1.k + 1, 0, s1.off⟩ 0 15 = (p, s4) from hpr, hpw] at this
                  exact this))
                have HPR := Lib.hid hpr
                clear hpr hpw
                have hgg := (HS5.out.put (q := 0) hB hrb).2.2.2.2
                obtain ⟨q0, q1, _, _⟩ := (HS5.out.put (q := 0) hB hrb).2
                have hlt0 : (0 : Int) ≤ (accR.length : Int) := by omega
                have hlt1 : (accR.length : Int) < (accR.length : Int) + 1 := by omega
                have HS5D := Lib.hid (HS5.out.below hB hrb (bel_drew (Below.refl _ _)))
                go_upto_region 27 with fail
                go_region_with (go_at_call 68; refine (HNUM.out _ HS5D.out).mono ?_; rintro e1 w7 ⟨he, hi7, hg7⟩; subst he; have hs7 := HS5D.out.gb hB hrb hi7 hg7; have HS7 := Lib.hid hs7; obtain ⟨y0, y1, y2, y3, y4, yf, yrs⟩ := hs7.ps.cells; obtain ⟨v0, v1, _, _⟩ := (hs7.put (q := 0) hB hrb).2; clear hi7 hg7 hs7)
                all_goals
                  have hs8 := (HS7.out.put (q := pw) hB hrb).1
                  obtain ⟨W8, hW8⟩ : ∃ W8, w7.setCell ⟨gg, accR.length * 2 + 1, none⟩ (.int .i64 pw) = W8 := ⟨_, rfl⟩
                  rw [hW8] at hs8 ⊢
                  have HS8 := Lib.hid hs8
                  clear hW8 hs8 q0 q1 y0 y1 y2 y3 y4 yf yrs v0 v1
                  have HR9 := Lib.hid (show R = (takeQ xs s4 3 [125], accR ++ [⟨1, p⟩]) from HRR.out.symm.trans (nodeQ_leaf HH3.out HE1.out (HX3.out.symm ▸ hkq) rfl HPR.out))
                  clear hkq
                  go_wp2_with fail
                  refine (mark_rs W8 rb B _ _ s4 xs ⟨#[125]⟩ HS8.out.ps HS8.out.lx hB hs4k hk).mono ?_
                  rintro e1 w13 ⟨⟨u13, he⟩, hi13, hg13⟩
                  subst he
                  have HS13 := Lib.hid (HS8.out.gb hB hrb hi13 hg13)
                  clear hi13 hg13
                  go_wp2_with fail
                  refine bodyPost_ret (results_none rfl _ _ _) rfl ?_
                  rw [HR9.out]
                  exact ⟨⟨_, rfl⟩, _, _, HS13.out, by simp only [List.length_append, List.length_singleton], by rw [List.length_append, List.length_singleton]; omega, fun h => by rw [HPW.out (takeQ_e h)]⟩
              · obtain ⟨⟨p, s4⟩, hpr⟩ : ∃ pr, posQ xs 2 ⟨s1.k + 1, 0, s1.off⟩ = pr := ⟨_, rfl⟩
                have hs4k : s4.k < xs.length := by
                  have := posQ_in HEND.out (k := 2) (s := ⟨s1.k + 1, 0, s1.off⟩) hsk2
                  rw [hpr] at this
                  exact this
                obtain ⟨pw, hpw⟩ : ∃ pw, numW (p, s4) = pw := ⟨_, rfl⟩
                have HPW := Lib.hid (show s4.e = 0 → pw = p from fun h => by rw [← hpw, numW, if_pos h])
                have HNUM := Lib.hid (fun (W : World) (h : NrAt w W rb Bn B (.slice (some ⟨b, o, none⟩) xs.length cp) (.slice (some ⟨gg, 0, none⟩) (accR.length + 1) cap) xs ⟨s1.k + 1, 0, s1.off⟩ (accR ++ [⟨2, 0⟩])) => (show Calls Tryd.prog 68 #[.pointer (some ⟨rb, 0, none⟩), .int .i64 (-600), .int .i64 600] W (RsPost W rb (.slice (some ⟨b, o, none⟩) xs.length cp) (.slice (some ⟨gg, 0, none⟩) (accR.length + 1) cap) s4 (.int .i64 pw)) by
                  have := number_rs W rb B _ _ ⟨s1.k + 1, 0, s1.off⟩ xs (-600) 600 h.ps h.lx hB HEND.out hsk2 hk HNM.out
                  rw [show numQ xs ⟨s1.k + 1, 0, s1.off⟩ (-600) 600 = (p, s4) from hpr, hpw] at this
                  exact this))
                have HPR := Lib.hid hpr
                clear hpr hpw
                have hgg := (HS5.out.put (q := 0) hB hrb).2.2.2.2
                obtain ⟨q0, q1, _, _⟩ := (HS5.out.put (q := 0) hB hrb).2
                have hlt0 : (0 : Int) ≤ (accR.length : Int) := by omega
                have hlt1 : (accR.length : Int) < (accR.length : Int) + 1 := by omega
                have HS5D := Lib.hid (HS5.out.below hB hrb (bel_drew (Below.refl _ _)))
                go_upto_region 30 with fail
                go_cut [] from 8 (fun wx => NrAt w wx rb Bn B (.slice (some ⟨b, o, none⟩) xs.length cp) (.slice (some ⟨gg, 0, none⟩) (accR.length + 1) cap) xs s4 (accR ++ [⟨2, pw⟩]))
                case first =>
                  go_region_with (go_at_call 68; refine (HNUM.out _ HS5D.out).mono ?_; rintro e1 w7 ⟨he, hi7, hg7⟩; subst he; have hs7 := HS5D.out.gb hB hrb hi7 hg7; have HS7 := Lib.hid hs7; obtain ⟨y0, y1, y2, y3, y4, yf, yrs⟩ := hs7.ps.cells; obtain ⟨v0, v1, _, _⟩ := (hs7.put (q := 0) hB hrb).2; clear hi7 hg7 hs7)
                  all_goals
                    simp only [Exit.then]
                    go_step
                    go_meet
                    case rel => exact (HS7.out.put (q := pw) hB hrb).1
                case rest =>
                  have HS8 := Lib.hid hcut
                  obtain ⟨⟨s5, acc5⟩, h5⟩ : ∃ q, nodeQ xs f' (lev + 1) s4 (accR ++ [⟨2, p⟩]) = q := ⟨_, rfl⟩
                  obtain ⟨⟨s6, acc6⟩, h6⟩ : ∃ q, nodeQ xs f' (lev + 1) s5 acc5 = q := ⟨_, rfl⟩
                  have HR9 := Lib.hid (show R = (takeQ xs s6 3 [125], acc6) from HRR.out.symm.trans (nodeQ_rip HH3.out HE1.out (HX3.out.symm ▸ hkq) rfl HPR.out h5 h6))
                  have hs5k : s5.k < xs.length := by
                    have := nodeQ_in HEND.out f' (lev + 1) s4 (accR ++ [⟨2, p⟩]) hs4k
                    rw [h5] at this
                    exact this
                  have hs6k : s6.k < xs.length := by
                    have := nodeQ_in HEND.out f' (lev + 1) s5 acc5 hs5k
                    rw [h6] at this
                    exact this
                  have hc1 := HOK.out (lev + 1) s4 (accR ++ [⟨2, p⟩]) (accR ++ [⟨2, pw⟩]) wc _ (by omega) (by omega) (by omega) hs4k (by rw [List.length_append, List.length_singleton]; omega) (by simp only [List.length_append, List.length_singleton]) (fun h => by rw [HPW.out h]) HS8.out.here
                  rw [h5] at hc1
                  have HC1 := Lib.hid hc1
                  have H6 := Lib.hid h6
                  clear hkq hcut h5 hc1 h6
                  go_wp2_with fail
                  refine HC1.out.mono ?_
                  rintro e1 w9 ⟨⟨u9, he⟩, v9, a9, hs9, hl9, hn9, ha9⟩
                  subst he
                  have hc2 := HOK.out (lev + 1) s5 acc5 a9 w9 v9 (by omega) (by omega) (by omega) hs5k hn9 hl9 ha9 hs9.here
                  rw [H6.out] at hc2
                  have HC2 := Lib.hid hc2
                  have HS9 := Lib.hid (HS8.out.trans hs9)
                  clear hs9 hc2 hl9 ha9
                  go_wp2_with fail
                  refine HC2.out.mono ?_
                  rintro e1 w10 ⟨⟨u10, he⟩, v10, a10, hs10, hl10, hn10, ha10⟩
                  subst he
                  have HS10 := Lib.hid (HS9.out.trans hs10)
                  have HA10 := Lib.hid (And.intro hl10 (And.intro hn10 ha10))
                  clear hs10 hl10 ha10 hn9 hn10
                  go_wp2_with fail
                  refine (mark_rs w10 rb B _ _ s6 xs ⟨#[125]⟩ HS10.out.ps HS10.out.lx hB hs6k hk).mono ?_
                  rintro e1 w13 ⟨⟨u13, he⟩, hi13, hg13⟩
                  subst he
                  have HS13 := Lib.hid (HS10.out.gb hB hrb hi13 hg13)
                  clear hi13 hg13
                  go_wp2_with fail
                  refine bodyPost_ret (results_none rfl _ _ _) rfl ?_
                  rw [HR9.out]
                  exact ⟨⟨_, rfl⟩, _, _, HS13.out, HA10.out.1, HA10.out.2.1, fun h => HA10.out.2.2 (takeQ_e h)⟩
              · obtain ⟨⟨p, s4⟩, hpr⟩ : ∃ pr, posQ xs 3 ⟨s1.k + 1, 0, s1.off⟩ = pr := ⟨_, rfl⟩
                have hs4k : s4.k < xs.length := by
                  have := posQ_in HEND.out (k := 3) (s := ⟨s1.k + 1, 0, s1.off⟩) hsk2
                  rw [hpr] at this
                  exact this
                obtain ⟨pw, hpw⟩ : ∃ pw, numW (p, s4) = pw := ⟨_, rfl⟩
                have HPW := Lib.hid (show s4.e = 0 → pw = p from fun h => by rw [← hpw, numW, if_pos h])
                have HNUM := Lib.hid (fun (W : World) (h : NrAt w W rb Bn B (.slice (some ⟨b, o, none⟩) xs.length cp) (.slice (some ⟨gg, 0, none⟩) (accR.length + 1) cap) xs ⟨s1.k + 1, 0, s1.off⟩ (accR ++ [⟨3, 0⟩])) => (show Calls Tryd.prog 68 #[.pointer (some ⟨rb, 0, none⟩), .int .i64 (-600), .int .i64 600] W (RsPost W rb (.slice (some ⟨b, o, none⟩) xs.length cp) (.slice (some ⟨gg, 0, none⟩) (accR.length + 1) cap) s4 (.int .i64 pw)) by
                  have := number_rs W rb B _ _ ⟨s1.k + 1, 0, s1.off⟩ xs (-600) 600 h.ps h.lx hB HEND.out hsk2 hk HNM.out
                  rw [show numQ xs ⟨s1.k + 1, 0, s1.off⟩ (-600) 600 = (p, s4) from hpr, hpw] at this
                  exact this))
                have HPR := Lib.hid hpr
                clear hpr hpw
                have hgg := (HS5.out.put (q := 0) hB hrb).2.2.2.2
                obtain ⟨q0, q1, _, _⟩ := (HS5.out.put (q := 0) hB hrb).2
                have hlt0 : (0 : Int) ≤ (accR.length : Int) := by omega
                have hlt1 : (accR.length : Int) < (accR.length : Int) + 1 := by omega
                have HS5D := Lib.hid (HS5.out.below hB hrb (bel_drew (Below.refl _ _)))
                go_upto_region 30 with fail
                go_cut [] from 8 (fun wx => NrAt w wx rb Bn B (.slice (some ⟨b, o, none⟩) xs.length cp) (.slice (some ⟨gg, 0, none⟩) (accR.length + 1) cap) xs s4 (accR ++ [⟨3, pw⟩]))
                case first =>
                  go_region_with (go_at_call 68; refine (HNUM.out _ HS5D.out).mono ?_; rintro e1 w7 ⟨he, hi7, hg7⟩; subst he; have hs7 := HS5D.out.gb hB hrb hi7 hg7; have HS7 := Lib.hid hs7; obtain ⟨y0, y1, y2, y3, y4, yf, yrs⟩ := hs7.ps.cells; obtain ⟨v0, v1, _, _⟩ := (hs7.put (q := 0) hB hrb).2; clear hi7 hg7 hs7)
                  all_goals
                    simp only [Exit.then]
                    go_step
                    go_meet
                    case rel => exact (HS7.out.put (q := pw) hB hrb).1
                case rest =>
                  have HS8 := Lib.hid hcut
                  obtain ⟨⟨s5, acc5⟩, h5⟩ : ∃ q, nodeQ xs f' (lev + 1) s4 (accR ++ [⟨3, p⟩]) = q := ⟨_, rfl⟩
                  obtain ⟨⟨s6, acc6⟩, h6⟩ : ∃ q, nodeQ xs f' (lev + 1) s5 acc5 = q := ⟨_, rfl⟩
                  have HR9 := Lib.hid (show R = (takeQ xs s6 3 [125], acc6) from HRR.out.symm.trans (nodeQ_rip HH3.out HE1.out (HX3.out.symm ▸ hkq) rfl HPR.out h5 h6))
                  have hs5k : s5.k < xs.length := by
                    have := nodeQ_in HEND.out f' (lev + 1) s4 (accR ++ [⟨3, p⟩]) hs4k
                    rw [h5] at this
                    exact this
                  have hs6k : s6.k < xs.length := by
                    have := nodeQ_in HEND.out f' (lev + 1) s5 acc5 hs5k
                    rw [h6] at this
                    exact this
                  have hc1 := HOK.out (lev + 1) s4 (accR ++ [⟨3, p⟩]) (accR ++ [⟨3, pw⟩]) wc _ (by omega) (by omega) (by omega) hs4k (by rw [List.length_append, List.length_singleton]; omega) (by simp only [List.length_append, List.length_singleton]) (fun h => by rw [HPW.out h]) HS8.out.here
                  rw [h5] at hc1
                  have HC1 := Lib.hid hc1
                  have H6 := Lib.hid h6
                  clear hkq hcut h5 hc1 h6
                  go_wp2_with fail
                  refine HC1.out.mono ?_
                  rintro e1 w9 ⟨⟨u9, he⟩, v9, a9, hs9, hl9, hn9, ha9⟩
                  subst he
                  have hc2 := HOK.out (lev + 1) s5 acc5 a9 w9 v9 (by omega) (by omega) (by omega) hs5k hn9 hl9 ha9 hs9.here
                  rw [H6.out] at hc2
                  have HC2 := Lib.hid hc2
                  have HS9 := Lib.hid (HS8.out.trans hs9)
                  clear hs9 hc2 hl9 ha9
                  go_wp2_with fail
                  refine HC2.out.mono ?_
                  rintro e1 w10 ⟨⟨u10, he⟩, v10, a10, hs10, hl10, hn10, ha10⟩
                  subst he
                  have HS10 := Lib.hid (HS9.out.trans hs10)
                  have HA10 := Lib.hid (And.intro hl10 (And.intro hn10 ha10))
                  clear hs10 hl10 ha10 hn9 hn10
                  go_wp2_with fail
                  refine (mark_rs w10 rb B _ _ s6 xs ⟨#[125]⟩ HS10.out.ps HS10.out.lx hB hs6k hk).mono ?_
                  rintro e1 w13 ⟨⟨u13, he⟩, hi13, hg13⟩
                  subst he
                  have HS13 := Lib.hid (HS10.out.gb hB hrb hi13 hg13)
                  clear hi13 hg13
                  go_wp2_with fail
                  refine bodyPost_ret (results_none rfl _ _ _) rfl ?_
                  rw [HR9.out]
                  exact ⟨⟨_, rfl⟩, _, _, HS13.out, HA10.out.1, HA10.out.2.1, fun h => HA10.out.2.2 (takeQ_e h)⟩
    · have heb1 : (s1.e == 0) = false := by rw [beq_eq_false_iff_ne]; exact he1
      have heb2 : (s1.e != 0) = true := by rw [bne_iff_ne]; exact he1
      have HZ := Lib.hid (HBAD.out s1 (by
        rw [H3.out]
        have h4 : (if 127 ≤ accR.length then failQ s1 4 off else s1) = s1 := by split; exact failQ_bad he1 _ _; rfl
        rw [h4]
        split
        · exact failQ_bad he1 _ _
        · rfl) he1)
      clear he1
      go_wp2_with fail
      refine bodyPost_ret (results_none rfl _ _ _) rfl ?_
      rw [HZ.out]
      exact ⟨⟨_, rfl⟩, _, _, HS2.out, rfl, hal, fun _ => rfl⟩
end Go.Proofs.YtbmcfodhjibooaaDoor
