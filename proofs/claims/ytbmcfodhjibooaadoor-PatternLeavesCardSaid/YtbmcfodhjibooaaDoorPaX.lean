/-
  The reference's walker: node, where it ends at once.
-/
import Derived.Test.YtbmcfodhjibooaaDoorPaW
namespace Go.Proofs.YtbmcfodhjibooaaDoor
open Go.RowKit Saw Go.Sort

set_option maxRecDepth 100000 in
set_option maxHeartbeats 2000000 in
theorem walk_short (wb Bn B : Nat) (nv lv : Value) (ns : List Nd) (l : List Pr) (sized : Bool) (kerf : Int) (lev : Int) (r : Rc) (at_ : Nat) (av cv : Value) (accL : List Lf) (accC : List Rc) (w : World) (hst : WkSt w wb Bn B nv lv ns l sized kerf at_ av cv accL accC) (h0 : at_ = ns.length) :
    Calls Tryd.prog 82 #[.pointer (some ⟨wb, 0, none⟩), rcV r, .int .i64 lev] w (WkPost w wb Bn B nv lv ns l sized kerf av cv accL accC (.inl 3)) := by
  obtain ⟨A, c, rfl, hc, hml⟩ := hst.rn.form
  obtain ⟨c0, c1, c2, c3, c4, c5, c6, cf, hrs⟩ := hst.cells
  have hd : ns.length ≤ at_ := by omega
  rw [show rcV r = .agg #[.int .i64 r.xa, .int .i64 r.xb, .int .i64 r.ya, .int .i64 r.yb] from rfl]
  have HS := Lib.hid hst
  clear hst h0
  go_enter Tryd.func82, Tryd.ntmps82
  go_wp2_with fail
  go_quiet (fail)
  go_wp2_with fail
  go_ret
  exact ⟨av, cv, (WkTo.refl w wb av cv).below (bel_drewN (by repeat (first | exact Below.refl _ _ | apply bel_alloc))), rfl⟩

/-- A node that is not there to be read is no node: how the walk begins at a node. -/
theorem walk_nd {W : World} {B : Nat} {A : Option Addr} {c : Nat} {ns : List Nd} (h : RdNd W B (.slice A ns.length c) ns) {at_ : Nat} (hlt : at_ < ns.length) : ∃ n b off, ns[at_]? = some n ∧ A = some ⟨b, off, none⟩ ∧ b < B ∧ W.cell? ⟨b, off + at_ * 2, none⟩ = some (.int .i64 n.kind) ∧ W.cell? ⟨b, off + at_ * 2 + 1, none⟩ = some (.int .i64 n.pos) := by
  have hx : ns[at_]? = some ns[at_] := List.getElem?_eq_getElem hlt
  obtain ⟨b, off, e, hb, d0, d1⟩ := h.at_ hx
  exact ⟨_, b, off, hx, e, hb, d0, d1⟩

theorem walk_begin {w : World} {wb Bn B : Nat} {nv lv : Value} {ns : List Nd} {l : List Pr} {sized : Bool} {kerf : Int} {at_ : Nat} {av cv : Value} {accL : List Lf} {accC : List Rc} (h : WkSt w wb Bn B nv lv ns l sized kerf at_ av cv accL accC) (hlt : at_ < ns.length) (o1 o2 : Obj) (m : Nat) {W : World} (hW : (((w.alloc o1).drewN m).setCell ⟨wb, 4, none⟩ (.int .i64 (at_ + 1))).alloc o2 = W) :
    WkSt W wb Bn B nv lv ns l sized kerf (at_ + 1) av cv accL accC ∧ WkTo w W wb av cv av cv ∧ W.heap[w.heap.size]? = some o1 ∧ W.heap[w.heap.size + 1]? = some o2 ∧ W.heap.size = w.heap.size + 1 + 1 ∧ Bn ≤ w.heap.size ∧ wb < w.heap.size := by
  subst hW
  have k1 := h.hwb
  have k2 := h.big
  have hs : ((w.alloc o1).drewN m).heap.size = w.heap.size + 1 := World.size_alloc w o1
  have hs2 : (((w.alloc o1).drewN m).setCell ⟨wb, 4, none⟩ (.int .i64 (at_ + 1))).heap.size = w.heap.size + 1 := by
    rw [← hs]; simp [World.setCell]
  refine ⟨(((h.alloc o1).below (bel_drewN (Below.refl _ _))).step hlt).alloc o2, (((WkTo.refl w wb av cv).below ?_).gb (gb_setW _ wb 4 _) fun g e => .inl (by injection e with e; exact e.symm)).below (bel_alloc (Below.refl _ _)), ?_, ?_, ?_, k2, by omega⟩
  · exact bel_drewN (bel_alloc (Below.refl _ _))
  · exact hpA ((Below.heap_setCell _ _ _ _ (by show w.heap.size ≠ wb; omega)).trans (show ((w.alloc o1).drewN m).heap[w.heap.size]? = some o1 from heap_alloc_last w o1)) o2
  · have := heap_alloc_last (((w.alloc o1).drewN m).setCell ⟨wb, 4, none⟩ (.int .i64 (at_ + 1))) o2
    rw [hs2] at this
    exact this
  · rw [World.size_alloc, hs2]
set_option maxRecDepth 100000 in
set_option maxHeartbeats 4000000 in
theorem walk_kind1 (wb Bn B : Nat) (nv lv : Value) (ns : List Nd) (l : List Pr) (sized : Bool) (kerf : Int) (lev : Int) (r : Rc) (at_ : Nat) (av cv : Value) (accL : List Lf) (accC : List Rc) (w : World) (hst : WkSt w wb Bn B nv lv ns l sized kerf at_ av cv accL accC) (k p : Int) (hn : ns[at_]? = some ⟨k, p⟩) (h0 : k < 0) :
    Calls Tryd.prog 82 #[.pointer (some ⟨wb, 0, none⟩), rcV r, .int .i64 lev] w (WkPost w wb Bn B nv lv ns l sized kerf av cv accL accC (.inl 10)) := by
  obtain ⟨A, c, rfl, hc, hml⟩ := hst.rn.form
  unfold maxLen at hml
  obtain ⟨c0, c1, c2, c3, c4, c5, c6, cf, hrs⟩ := hst.cells
  have hlt : at_ < ns.length := (List.getElem?_eq_some_iff.1 hn).1
  obtain ⟨b, off, rfl, hb, d0, d1⟩ := hst.rn.at_ hn
  simp only at d0 d1
  have hd : ¬ ns.length ≤ at_ := by omega
  rw [show rcV r = .agg #[.int .i64 r.xa, .int .i64 r.xb, .int .i64 r.ya, .int .i64 r.yb] from rfl]
  have hbs : b < w.heap.size := by have := hst.hB; have := hst.hwb; have := hst.big; omega
  have hns := hst.hns
  have hla := hst.la
  have hlc := hst.lc
  have HS := Lib.hid hst
  clear hst hn
  go_enter Tryd.func82, Tryd.ntmps82
  go_wp2_with fail
  go_quiet (fail)
  go_wp2_with fail
  go_region
  go_upto_region 5 with fail
  obtain ⟨W2, hW2⟩ : ∃ W2, (((w.alloc (.cells #[.int .i64 r.xa, .int .i64 r.xb, .int .i64 r.ya, .int .i64 r.yb] 25)).drewN (nq + 1)).setCell ⟨wb, 4, none⟩ (.int .i64 (at_ + 1))).alloc (.cells #[.int .i64 k, .int .i64 p] 64) = W2 := ⟨_, rfl⟩
  obtain ⟨hs2, ht2, hr2, hn2, hz2, hbz, hwz⟩ := walk_begin HS.out hlt _ _ _ hW2
  obtain ⟨N, hN⟩ : ∃ N, w.heap.size = N := ⟨_, rfl⟩
  rw [hN] at hr2 hn2 hz2 hbz hwz
  have HN := Lib.hid hN
  rw [hW2, hN]
  have HS2 := Lib.hid hs2
  have HT2 := Lib.hid ht2
  have HR2 := Lib.hid hr2
  have HN2 := Lib.hid hn2
  obtain ⟨r0, r1, r2, r3⟩ := cells4 hr2
  obtain ⟨n0, n1⟩ := cells2 hn2
  clear hW2 hs2 ht2 hr2 hn2 c0 c1 c2 c3 c4 c5 c6 cf hrs d0 d1 hd hN hc hb hbs
  obtain ⟨c0, c1, c2, c3, c4, c5, c6, cf, hrs⟩ := HS2.out.cells
  have hNW : N < W2.heap.size := by omega
  have hNW1 : N + 1 < W2.heap.size := by omega
  have HZ2 := Lib.hid hz2
  clear hz2
  go_wp2_with fail
  go_ret
  exact ⟨av, cv, HT2.out, rfl⟩

set_option maxRecDepth 100000 in
set_option maxHeartbeats 4000000 in
theorem walk_kind2 (wb Bn B : Nat) (nv lv : Value) (ns : List Nd) (l : List Pr) (sized : Bool) (kerf : Int) (lev : Int) (r : Rc) (at_ : Nat) (av cv : Value) (accL : List Lf) (accC : List Rc) (w : World) (hst : WkSt w wb Bn B nv lv ns l sized kerf at_ av cv accL accC) (k p : Int) (hn : ns[at_]? = some ⟨k, p⟩) (h0 : ¬ k < 0) (h1 : 3 < k) :
    Calls Tryd.prog 82 #[.pointer (some ⟨wb, 0, none⟩), rcV r, .int .i64 lev] w (WkPost w wb Bn B nv lv ns l sized kerf av cv accL accC (.inl 10)) := by
  obtain ⟨A, c, rfl, hc, hml⟩ := hst.rn.form
  unfold maxLen at hml
  obtain ⟨c0, c1, c2, c3, c4, c5, c6, cf, hrs⟩ := hst.cells
  have hlt : at_ < ns.length := (List.getElem?_eq_some_iff.1 hn).1
  obtain ⟨b, off, rfl, hb, d0, d1⟩ := hst.rn.at_ hn
  simp only at d0 d1
  have hd : ¬ ns.length ≤ at_ := by omega
  rw [show rcV r = .agg #[.int .i64 r.xa, .int .i64 r.xb, .int .i64 r.ya, .int .i64 r.yb] from rfl]
  have hbs : b < w.heap.size := by have := hst.hB; have := hst.hwb; have := hst.big; omega
  have hns := hst.hns
  have hla := hst.la
  have hlc := hst.lc
  have HS := Lib.hid hst
  clear hst hn
  go_enter Tryd.func82, Tryd.ntmps82
  go_wp2_with fail
  go_quiet (fail)
  go_wp2_with fail
  go_region
  go_upto_region 5 with fail
  obtain ⟨W2, hW2⟩ : ∃ W2, (((w.alloc (.cells #[.int .i64 r.xa, .int .i64 r.xb, .int .i64 r.ya, .int .i64 r.yb] 25)).drewN (nq + 1)).setCell ⟨wb, 4, none⟩ (.int .i64 (at_ + 1))).alloc (.cells #[.int .i64 k, .int .i64 p] 64) = W2 := ⟨_, rfl⟩
  obtain ⟨hs2, ht2, hr2, hn2, hz2, hbz, hwz⟩ := walk_begin HS.out hlt _ _ _ hW2
  obtain ⟨N, hN⟩ : ∃ N, w.heap.size = N := ⟨_, rfl⟩
  rw [hN] at hr2 hn2 hz2 hbz hwz
  have HN := Lib.hid hN
  rw [hW2, hN]
  have HS2 := Lib.hid hs2
  have HT2 := Lib.hid ht2
  have HR2 := Lib.hid hr2
  have HN2 := Lib.hid hn2
  obtain ⟨r0, r1, r2, r3⟩ := cells4 hr2
  obtain ⟨n0, n1⟩ := cells2 hn2
  clear hW2 hs2 ht2 hr2 hn2 c0 c1 c2 c3 c4 c5 c6 cf hrs d0 d1 hd hN hc hb hbs
  obtain ⟨c0, c1, c2, c3, c4, c5, c6, cf, hrs⟩ := HS2.out.cells
  have hNW : N < W2.heap.size := by omega
  have hNW1 : N + 1 < W2.heap.size := by omega
  have HZ2 := Lib.hid hz2
  clear hz2
  go_wp2_with fail
  go_ret
  exact ⟨av, cv, HT2.out, rfl⟩

set_option maxRecDepth 100000 in
set_option maxHeartbeats 4000000 in
theorem walk_kind3 (wb Bn B : Nat) (nv lv : Value) (ns : List Nd) (l : List Pr) (sized : Bool) (kerf : Int) (lev : Int) (r : Rc) (at_ : Nat) (av cv : Value) (accL : List Lf) (accC : List Rc) (w : World) (hst : WkSt w wb Bn B nv lv ns l sized kerf at_ av cv accL accC) (k p : Int) (hn : ns[at_]? = some ⟨k, p⟩) (h0 : p ≠ 0) (h1 : k = 0) :
    Calls Tryd.prog 82 #[.pointer (some ⟨wb, 0, none⟩), rcV r, .int .i64 lev] w (WkPost w wb Bn B nv lv ns l sized kerf av cv accL accC (.inl 10)) := by
  obtain ⟨A, c, rfl, hc, hml⟩ := hst.rn.form
  unfold maxLen at hml
  obtain ⟨c0, c1, c2, c3, c4, c5, c6, cf, hrs⟩ := hst.cells
  have hlt : at_ < ns.length := (List.getElem?_eq_some_iff.1 hn).1
  obtain ⟨b, off, rfl, hb, d0, d1⟩ := hst.rn.at_ hn
  simp only at d0 d1
  have hd : ¬ ns.length ≤ at_ := by omega
  rw [show rcV r = .agg #[.int .i64 r.xa, .int .i64 r.xb, .int .i64 r.ya, .int .i64 r.yb] from rfl]
  have hbs : b < w.heap.size := by have := hst.hB; have := hst.hwb; have := hst.big; omega
  have hns := hst.hns
  have hla := hst.la
  have hlc := hst.lc
  have HS := Lib.hid hst
  clear hst hn
  subst h1
  have hp : (p != 0) = true := by rw [bne_iff_ne]; exact h0
  go_enter Tryd.func82, Tryd.ntmps82
  go_wp2_with fail
  go_quiet (fail)
  go_wp2_with fail
  go_region
  go_upto_region 5 with fail
  obtain ⟨W2, hW2⟩ : ∃ W2, (((w.alloc (.cells #[.int .i64 r.xa, .int .i64 r.xb, .int .i64 r.ya, .int .i64 r.yb] 25)).drewN (nq + 1)).setCell ⟨wb, 4, none⟩ (.int .i64 (at_ + 1))).alloc (.cells #[.int .i64 0, .int .i64 p] 64) = W2 := ⟨_, rfl⟩
  obtain ⟨hs2, ht2, hr2, hn2, hz2, hbz, hwz⟩ := walk_begin HS.out hlt _ _ _ hW2
  obtain ⟨N, hN⟩ : ∃ N, w.heap.size = N := ⟨_, rfl⟩
  rw [hN] at hr2 hn2 hz2 hbz hwz
  have HN := Lib.hid hN
  rw [hW2, hN]
  have HS2 := Lib.hid hs2
  have HT2 := Lib.hid ht2
  have HR2 := Lib.hid hr2
  have HN2 := Lib.hid hn2
  obtain ⟨r0, r1, r2, r3⟩ := cells4 hr2
  obtain ⟨n0, n1⟩ := cells2 hn2
  clear hW2 hs2 ht2 hr2 hn2 c0 c1 c2 c3 c4 c5 c6 cf hrs d0 d1 hd hN hc hb hbs
  obtain ⟨c0, c1, c2, c3, c4, c5, c6, cf, hrs⟩ := HS2.out.cells
  have hNW : N < W2.heap.size := by omega
  have hNW1 : N + 1 < W2.heap.size := by omega
  have HZ2 := Lib.hid hz2
  clear hz2
  go_wp2_with fail
  go_ret
  exact ⟨av, cv, HT2.out, rfl⟩

set_option maxRecDepth 100000 in
set_option maxHeartbeats 4000000 in
theorem walk_level1 (wb Bn B : Nat) (nv lv : Value) (ns : List Nd) (l : List Pr) (sized : Bool) (kerf : Int) (lev : Int) (r : Rc) (at_ : Nat) (av cv : Value) (accL : List Lf) (accC : List Rc) (w : World) (hst : WkSt w wb Bn B nv lv ns l sized kerf at_ av cv accL accC) (k p : Int) (hn : ns[at_]? = some ⟨k, p⟩) (h0 : ¬ k < 0) (h1 : ¬ 3 < k) (h2 : k ≠ 0) (h3 : 64 < lev) :
    Calls Tryd.prog 82 #[.pointer (some ⟨wb, 0, none⟩), rcV r, .int .i64 lev] w (WkPost w wb Bn B nv lv ns l sized kerf av cv accL accC (.inl 28)) := by
  obtain ⟨A, c, rfl, hc, hml⟩ := hst.rn.form
  unfold maxLen at hml
  obtain ⟨c0, c1, c2, c3, c4, c5, c6, cf, hrs⟩ := hst.cells
  have hlt : at_ < ns.length := (List.getElem?_eq_some_iff.1 hn).1
  obtain ⟨b, off, rfl, hb, d0, d1⟩ := hst.rn.at_ hn
  simp only at d0 d1
  have hd : ¬ ns.length ≤ at_ := by omega
  rw [show rcV r = .agg #[.int .i64 r.xa, .int .i64 r.xb, .int .i64 r.ya, .int .i64 r.yb] from rfl]
  have hbs : b < w.heap.size := by have := hst.hB; have := hst.hwb; have := hst.big; omega
  have hns := hst.hns
  have hla := hst.la
  have hlc := hst.lc
  have HS := Lib.hid hst
  clear hst hn
  have kb : (k == 0) = false := by rw [beq_eq_false_iff_ne]; exact h2
  go_enter Tryd.func82, Tryd.ntmps82
  go_wp2_with fail
  go_quiet (fail)
  go_wp2_with fail
  go_region
  go_upto_region 5 with fail
  obtain ⟨W2, hW2⟩ : ∃ W2, (((w.alloc (.cells #[.int .i64 r.xa, .int .i64 r.xb, .int .i64 r.ya, .int .i64 r.yb] 25)).drewN (nq + 1)).setCell ⟨wb, 4, none⟩ (.int .i64 (at_ + 1))).alloc (.cells #[.int .i64 k, .int .i64 p] 64) = W2 := ⟨_, rfl⟩
  obtain ⟨hs2, ht2, hr2, hn2, hz2, hbz, hwz⟩ := walk_begin HS.out hlt _ _ _ hW2
  obtain ⟨N, hN⟩ : ∃ N, w.heap.size = N := ⟨_, rfl⟩
  rw [hN] at hr2 hn2 hz2 hbz hwz
  have HN := Lib.hid hN
  rw [hW2, hN]
  have HS2 := Lib.hid hs2
  have HT2 := Lib.hid ht2
  have HR2 := Lib.hid hr2
  have HN2 := Lib.hid hn2
  obtain ⟨r0, r1, r2, r3⟩ := cells4 hr2
  obtain ⟨n0, n1⟩ := cells2 hn2
  clear hW2 hs2 ht2 hr2 hn2 c0 c1 c2 c3 c4 c5 c6 cf hrs d0 d1 hd hN hc hb hbs
  obtain ⟨c0, c1, c2, c3, c4, c5, c6, cf, hrs⟩ := HS2.out.cells
  have hNW : N < W2.heap.size := by omega
  have hNW1 : N + 1 < W2.heap.size := by omega
  have HZ2 := Lib.hid hz2
  clear hz2
  go_wp2_with fail
  go_ret
  exact ⟨av, cv, HT2.out, rfl⟩

set_option maxRecDepth 100000 in
set_option maxHeartbeats 4000000 in
theorem walk_level2 (wb Bn B : Nat) (nv lv : Value) (ns : List Nd) (l : List Pr) (sized : Bool) (kerf : Int) (lev : Int) (r : Rc) (at_ : Nat) (av cv : Value) (accL : List Lf) (accC : List Rc) (w : World) (hst : WkSt w wb Bn B nv lv ns l sized kerf at_ av cv accL accC) (k p : Int) (hn : ns[at_]? = some ⟨k, p⟩) (h2 : k = 0) (h1 : p = 0) (h3 : 64 < lev) :
    Calls Tryd.prog 82 #[.pointer (some ⟨wb, 0, none⟩), rcV r, .int .i64 lev] w (WkPost w wb Bn B nv lv ns l sized kerf av cv accL accC (.inl 28)) := by
  obtain ⟨A, c, rfl, hc, hml⟩ := hst.rn.form
  unfold maxLen at hml
  obtain ⟨c0, c1, c2, c3, c4, c5, c6, cf, hrs⟩ := hst.cells
  have hlt : at_ < ns.length := (List.getElem?_eq_some_iff.1 hn).1
  obtain ⟨b, off, rfl, hb, d0, d1⟩ := hst.rn.at_ hn
  simp only at d0 d1
  have hd : ¬ ns.length ≤ at_ := by omega
  rw [show rcV r = .agg #[.int .i64 r.xa, .int .i64 r.xb, .int .i64 r.ya, .int .i64 r.yb] from rfl]
  have hbs : b < w.heap.size := by have := hst.hB; have := hst.hwb; have := hst.big; omega
  have hns := hst.hns
  have hla := hst.la
  have hlc := hst.lc
  have HS := Lib.hid hst
  clear hst hn
  subst h2 h1
  go_enter Tryd.func82, Tryd.ntmps82
  go_wp2_with fail
  go_quiet (fail)
  go_wp2_with fail
  go_region
  go_upto_region 5 with fail
  obtain ⟨W2, hW2⟩ : ∃ W2, (((w.alloc (.cells #[.int .i64 r.xa, .int .i64 r.xb, .int .i64 r.ya, .int .i64 r.yb] 25)).drewN (nq + 1)).setCell ⟨wb, 4, none⟩ (.int .i64 (at_ + 1))).alloc (.cells #[.int .i64 0, .int .i64 0] 64) = W2 := ⟨_, rfl⟩
  obtain ⟨hs2, ht2, hr2, hn2, hz2, hbz, hwz⟩ := walk_begin HS.out hlt _ _ _ hW2
  obtain ⟨N, hN⟩ : ∃ N, w.heap.size = N := ⟨_, rfl⟩
  rw [hN] at hr2 hn2 hz2 hbz hwz
  have HN := Lib.hid hN
  rw [hW2, hN]
  have HS2 := Lib.hid hs2
  have HT2 := Lib.hid ht2
  have HR2 := Lib.hid hr2
  have HN2 := Lib.hid hn2
  obtain ⟨r0, r1, r2, r3⟩ := cells4 hr2
  obtain ⟨n0, n1⟩ := cells2 hn2
  clear hW2 hs2 ht2 hr2 hn2 c0 c1 c2 c3 c4 c5 c6 cf hrs d0 d1 hd hN hc hb hbs
  obtain ⟨c0, c1, c2, c3, c4, c5, c6, cf, hrs⟩ := HS2.out.cells
  have hNW : N < W2.heap.size := by omega
  have hNW1 : N + 1 < W2.heap.size := by omega
  have HZ2 := Lib.hid hz2
  clear hz2
  go_wp2_with fail
  go_ret
  exact ⟨av, cv, HT2.out, rfl⟩

end Go.Proofs.YtbmcfodhjibooaaDoor
