/-
  The reference's walker: node, where it appends.
-/
import Derived.Test.YtbmcfodhjibooaaDoorPaX
import Derived.Test.YtbmcfodhjibooaaDoorPaM
namespace Go.Proofs.YtbmcfodhjibooaaDoor
open Go.RowKit Saw Go.Sort
section
variable {w W W5 : World} {wb : Nat} {v1 u1 v2 u2 : Value}
theorem WkTo.app1 (h : WkTo w W wb v1 u1 v2 u2) (hg : W.grownBy W5 v2.ownBlock) {g : Nat} (hat : v2.ownBlock = some g ∨ w.heap.size ≤ g) (i : Nat) (v : Value) (n c : Nat) : WkTo w (W5.setCell ⟨wb, i, none⟩ v) wb v1 u1 (.slice (some ⟨g, 0, none⟩) n c) u2 := by
  have h2 := (h.gb hg fun g e => by
    rcases h.na with h3 | h3
    · exact .inr (.inr (.inl (h3 ▸ e)))
    · exact .inr (.inl (h3 g e))).gb (gb_setW W5 wb i v) fun g e => .inl (by injection e with e; exact e.symm)
  refine ⟨h2.os, h2.tape, h2.output, h2.size, h2.block, ?_, h2.nc⟩
  rcases hat with h4 | h4
  · rcases h.na with h3 | h3
    · exact .inl (h4.symm.trans h3)
    · exact .inr fun g' e => by have e : some g = some g' := e; injection e with e; subst e; exact h3 g h4
  · exact .inr fun g' e => by have e : some g = some g' := e; injection e with e; subst e; exact h4
theorem WkTo.app2 (h : WkTo w W wb v1 u1 v2 u2) (hg : W.grownBy W5 u2.ownBlock) {g : Nat} (hat : u2.ownBlock = some g ∨ w.heap.size ≤ g) (i : Nat) (v : Value) (n c : Nat) : WkTo w (W5.setCell ⟨wb, i, none⟩ v) wb v1 u1 v2 (.slice (some ⟨g, 0, none⟩) n c) := by
  have h2 := (h.gb hg fun g e => by
    rcases h.nc with h3 | h3
    · exact .inr (.inr (.inr (h3 ▸ e)))
    · exact .inr (.inl (h3 g e))).gb (gb_setW W5 wb i v) fun g e => .inl (by injection e with e; exact e.symm)
  refine ⟨h2.os, h2.tape, h2.output, h2.size, h2.block, h2.na, ?_⟩
  rcases hat with h4 | h4
  · rcases h.nc with h3 | h3
    · exact .inl (h4.symm.trans h3)
    · exact .inr fun g' e => by have e : some g = some g' := e; injection e with e; subst e; exact h3 g h4
  · exact .inr fun g' e => by have e : some g = some g' := e; injection e with e; subst e; exact h4
theorem box_app {g i : Nat} {o : Obj} {v : Value} {row : Option Nat} (hg : W.grownBy W5 row) (h : W.heap[g]? = some o) (hr : row ≠ some g) (hw : g ≠ wb) : (W5.setCell ⟨wb, i, none⟩ v).heap[g]? = some o :=
  (Below.heap_setCell _ _ _ _ hw).trans ((hg.block g (Array.getElem?_eq_some_iff.1 h).1 (fun e => hr e.symm)).trans h)
end
theorem WkSt.next {W : World} {wb Bn B : Nat} {nv lv : Value} {ns : List Nd} {l : List Pr} {sized : Bool} {kerf : Int} {at_ : Nat} {av cv : Value} {accL : List Lf} {accC : List Rc} (h : WkSt W wb Bn B nv lv ns l sized kerf at_ av cv accL accC) (o : Obj) : WkSt (W.alloc o).drew wb Bn B nv lv ns l sized kerf at_ av cv accL accC :=
  (h.alloc o).below (bel_drew (Below.refl _ _))
theorem WkSt.c5 {W W5 : World} {wb Bn B : Nat} {nv lv : Value} {ns : List Nd} {l : List Pr} {sized : Bool} {kerf : Int} {at_ : Nat} {av cv : Value} {accL : List Lf} {accC : List Rc} (h : WkSt W wb Bn B nv lv ns l sized kerf at_ av cv accL accC) (hg : W.grownBy W5 av.ownBlock) : W5.cell? ⟨wb, 5, none⟩ = some av ∧ W5.frozen? ⟨wb, 5, none⟩ = false := by
  have hwk : WkAt W5 wb nv lv sized kerf at_ av cv := (hg.block wb (by have := h.hwb; have := h.big; omega) fun e => by have := (h.ag e.symm).1; have := h.hwb; omega).trans h.wk
  exact ⟨hwk.cells.2.2.2.2.2.1, hwk.cells.2.2.2.2.2.2.2.1 5⟩
theorem WkSt.c6 {W W5 : World} {wb Bn B : Nat} {nv lv : Value} {ns : List Nd} {l : List Pr} {sized : Bool} {kerf : Int} {at_ : Nat} {av cv : Value} {accL : List Lf} {accC : List Rc} (h : WkSt W wb Bn B nv lv ns l sized kerf at_ av cv accL accC) (hg : W.grownBy W5 cv.ownBlock) : W5.cell? ⟨wb, 6, none⟩ = some cv ∧ W5.frozen? ⟨wb, 6, none⟩ = false := by
  have hwk : WkAt W5 wb nv lv sized kerf at_ av cv := (hg.block wb (by have := h.hwb; have := h.big; omega) fun e => by have := (h.cg e.symm).1; have := h.hwb; omega).trans h.wk
  exact ⟨hwk.cells.2.2.2.2.2.2.1, hwk.cells.2.2.2.2.2.2.2.1 6⟩
set_option maxRecDepth 100000 in
set_option maxHeartbeats 4000000 in
theorem walk_waste (wb Bn B : Nat) (nv lv : Value) (ns : List Nd) (l : List Pr) (sized : Bool) (kerf : Int) (lev : Int) (r : Rc) (at_ : Nat) (av cv : Value) (accL : List Lf) (accC : List Rc) (w : World) (hst : WkSt w wb Bn B nv lv ns l sized kerf at_ av cv accL accC) (k p : Int) (hn : ns[at_]? = some ⟨k, p⟩) (h2 : k = 0) (h1 : p = 0) (h3 : ¬ 64 < lev) :
    Calls Tryd.prog 82 #[.pointer (some ⟨wb, 0, none⟩), rcV r, .int .i64 lev] w (WkPost w wb Bn B nv lv ns l sized kerf av cv accL accC (.inr (ns.drop (at_ + 1), [⟨r, -1⟩], []))) := by
  obtain ⟨A, c, rfl, hc, hml⟩ := hst.rn.form
  unfold maxLen at hml
  obtain ⟨c0, c1, c2, c3, c4, c5, c6, cf, hrs⟩ := hst.cells
  have hlt : at_ < ns.length := (List.getElem?_eq_some_iff.1 hn).1
  obtain ⟨b, off, rfl, hb, d0, d1⟩ := hst.rn.at_ hn
  simp only at d0 d1
  have hd : ¬ ns.length ≤ at_ := by omega
  rw [show rcV r = .agg #[.int .i64 r.xa, .int .i64 r.xb, .int .i64 r.ya, .int .i64 r.yb] from rfl]
  have hbs : b < w.heap.size := by have := hst.hB; have := hst.hwb; have := hst.big; omega
  have hns := hst.hns
  have hla := hst.la
  have hlc := hst.lc
  have HS := Lib.hid hst
  clear hst hn
  subst h2 h1
  go_enter Tryd.func82, Tryd.ntmps82
  go_wp2_with fail
  go_quiet (fail)
  go_wp2_with fail
  go_region
  go_upto_region 5 with fail
  obtain ⟨W2, hW2⟩ : ∃ W2, (((w.alloc (.cells #[.int .i64 r.xa, .int .i64 r.xb, .int .i64 r.ya, .int .i64 r.yb] 25)).drewN (nq + 1)).setCell ⟨wb, 4, none⟩ (.int .i64 (at_ + 1))).alloc (.cells #[.int .i64 0, .int .i64 0] 64) = W2 := ⟨_, rfl⟩
  obtain ⟨hs2, ht2, hr2, hn2, hz2, hbz, hwz⟩ := walk_begin HS.out hlt _ _ _ hW2
  obtain ⟨N, hN⟩ : ∃ N, w.heap.size = N := ⟨_, rfl⟩
  rw [hN] at hr2 hn2 hz2 hbz hwz
  have HN := Lib.hid hN
  rw [hW2, hN]
  have HS2 := Lib.hid hs2
  have HT2 := Lib.hid ht2
  have HR2 := Lib.hid hr2
  have HN2 := Lib.hid hn2
  obtain ⟨r0, r1, r2, r3⟩ := cells4 hr2
  obtain ⟨n0, n1⟩ := cells2 hn2
  clear hW2 hs2 ht2 hr2 hn2 c0 c1 c2 c3 c4 c5 c6 cf hrs d0 d1 hd hN hc hb hbs
  obtain ⟨c0, c1, c2, c3, c4, c5, c6, cf, hrs⟩ := HS2.out.cells
  have hNW : N < W2.heap.size := by omega
  have hNW1 : N + 1 < W2.heap.size := by omega
  have HZ2 := Lib.hid hz2
  clear hz2
  have hvN : av.ownBlock ≠ some N ∧ av.ownBlock ≠ some (N + 1) := ⟨fun e => by have := (HS.out.ag e).2.1; have := HN.out; omega, fun e => by have := (HS.out.ag e).2.1; have := HN.out; omega⟩
  have HVN := Lib.hid hvN
  clear hvN
  obtain ⟨i0, hi0, hq0, hq1, hq2⟩ := info_parts lf_infoE
  have HS3 := Lib.hid (HS2.out.next (.cells #[.int .i64 r.xa, .int .i64 r.xb, .int .i64 r.ya, .int .i64 r.yb, .int .i64 (-1)] 59))
  go_wp2_with fail
  go_region_law
    ((refine step_append_lies _ (by rfl) _ _ 35 (by rfl) Bn 59 i0 _ 5 40 Tryd.underlying35 hi0 hq0 hq1 hq2 rfl (by omega) av accL.length (lfsCells accL) (by rfl) HS3.out.ol ⟨W2.heap.size, 0, none⟩ 1 1 [.int .i64 r.xa, .int .i64 r.xb, .int .i64 r.ya, .int .i64 r.yb, .int .i64 (-1)] (by rfl) (by rfl) (World.news_of_block (cs := #[.int .i64 r.xa, .int .i64 r.xb, .int .i64 r.ya, .int .i64 r.yb, .int .i64 (-1)]) (t := 59) (fr := (0, 0)) (heap_alloc_last W2 _)) (lf_mem ⟨r, -1⟩) (by omega) (by simp only [maxLen]; omega) (by omega) (by rw [szq]; have := HZ2.out; omega) (W2.heap.size + 1) szq ?_; intro gg cap w9 hown9 hgrow hat hlt9; obtain ⟨c59, f59⟩ := HS3.out.c5 hgrow))
  all_goals
    have HS10 := Lib.hid (HS3.out.leaf (x := ⟨r, -1⟩) (H := 0) hgrow hown9 (by omega))
    have HT10 := Lib.hid (((HT2.out.below (bel_drew (bel_alloc (Below.refl _ _)))).app1 hgrow (hat.imp id fun e => by subst e; have := HN.out; have := HZ2.out; omega) 5 (.slice (some ⟨gg, 0, none⟩) (accL.length + 1) cap) (accL.length + 1) cap))
    have HR10 := Lib.hid (box_app (i := 5) (v := .slice (some ⟨gg, 0, none⟩) (accL.length + 1) cap) hgrow (show (W2.alloc (.cells #[.int .i64 r.xa, .int .i64 r.xb, .int .i64 r.ya, .int .i64 r.yb, .int .i64 (-1)] 59)).drew.heap[N]? = _ from hpA HR2.out _) HVN.out.1 (show N ≠ wb by omega))
    have HN10 := Lib.hid (box_app (i := 5) (v := .slice (some ⟨gg, 0, none⟩) (accL.length + 1) cap) hgrow (show (W2.alloc (.cells #[.int .i64 r.xa, .int .i64 r.xb, .int .i64 r.ya, .int .i64 r.yb, .int .i64 (-1)] 59)).drew.heap[N + 1]? = _ from hpA HN2.out _) HVN.out.2 (show N + 1 ≠ wb by omega))
    obtain ⟨W10, hW10⟩ : ∃ W10, w9.setCell ⟨wb, 5, none⟩ (.slice (some ⟨gg, 0, none⟩) (accL.length + 1) cap) = W10 := ⟨_, rfl⟩
    rw [hW10] at HS10 HT10 HR10 HN10
    rw [hW10]
    clear hown9 hgrow hat hlt9 c59 f59 hW10 c0 c1 c2 c3 c4 c5 c6 cf hrs r0 r1 r2 r3 n0 n1 HS3
    go_wp2_with fail
    go_ret
    exact ⟨_, cv, HT10.out, rfl, at_ + 1, rfl, by rw [List.append_nil]; exact HS10.out⟩

set_option maxRecDepth 100000 in
set_option maxHeartbeats 4000000 in
theorem walk_board (wb Bn B : Nat) (nv lv : Value) (ns : List Nd) (l : List Pr) (sized : Bool) (kerf : Int) (lev : Int) (r : Rc) (at_ : Nat) (av cv : Value) (accL : List Lf) (accC : List Rc) (w : World) (hst : WkSt w wb Bn B nv lv ns l sized kerf at_ av cv accL accC) (k p : Int) (hn : ns[at_]? = some ⟨k, p⟩) (h1 : k = 1) (h3 : ¬ 64 < lev) (hr : RcOk r) (R : Int ⊕ (List Nd × List Lf × List Rc)) (hR : (bdP sized l r p = 0 → R = .inr (ns.drop (at_ + 1), [⟨r, p⟩], [])) ∧ (bdP sized l r p ≠ 0 → R = .inl (bdP sized l r p))) :
    Calls Tryd.prog 82 #[.pointer (some ⟨wb, 0, none⟩), rcV r, .int .i64 lev] w (WkPost w wb Bn B nv lv ns l sized kerf av cv accL accC R) := by
  obtain ⟨A, c, rfl, hc, hml⟩ := hst.rn.form
  unfold maxLen at hml
  obtain ⟨c0, c1, c2, c3, c4, c5, c6, cf, hrs⟩ := hst.cells
  have hlt : at_ < ns.length := (List.getElem?_eq_some_iff.1 hn).1
  obtain ⟨b, off, rfl, hb, d0, d1⟩ := hst.rn.at_ hn
  simp only at d0 d1
  have hd : ¬ ns.length ≤ at_ := by omega
  rw [show rcV r = .agg #[.int .i64 r.xa, .int .i64 r.xb, .int .i64 r.ya, .int .i64 r.yb] from rfl]
  have hbs : b < w.heap.size := by have := hst.hB; have := hst.hwb; have := hst.big; omega
  have hns := hst.hns
  have hla := hst.la
  have hlc := hst.lc
  have HS := Lib.hid hst
  clear hst hn
  subst h1
  have HRC := Lib.hid hr
  have HRR := Lib.hid hR
  clear hr hR
  go_enter Tryd.func82, Tryd.ntmps82
  go_wp2_with fail
  go_quiet (fail)
  go_wp2_with fail
  go_region
  go_upto_region 5 with fail
  obtain ⟨W2, hW2⟩ : ∃ W2, (((w.alloc (.cells #[.int .i64 r.xa, .int .i64 r.xb, .int .i64 r.ya, .int .i64 r.yb] 25)).drewN (nq + 1)).setCell ⟨wb, 4, none⟩ (.int .i64 (at_ + 1))).alloc (.cells #[.int .i64 1, .int .i64 p] 64) = W2 := ⟨_, rfl⟩
  obtain ⟨hs2, ht2, hr2, hn2, hz2, hbz, hwz⟩ := walk_begin HS.out hlt _ _ _ hW2
  obtain ⟨N, hN⟩ : ∃ N, w.heap.size = N := ⟨_, rfl⟩
  rw [hN] at hr2 hn2 hz2 hbz hwz
  have HN := Lib.hid hN
  rw [hW2, hN]
  have HS2 := Lib.hid hs2
  have HT2 := Lib.hid ht2
  have HR2 := Lib.hid hr2
  have HN2 := Lib.hid hn2
  obtain ⟨r0, r1, r2, r3⟩ := cells4 hr2
  obtain ⟨n0, n1⟩ := cells2 hn2
  clear hW2 hs2 ht2 hr2 hn2 c0 c1 c2 c3 c4 c5 c6 cf hrs d0 d1 hd hN hc hb hbs
  obtain ⟨c0, c1, c2, c3, c4, c5, c6, cf, hrs⟩ := HS2.out.cells
  have hNW : N < W2.heap.size := by omega
  have hNW1 : N + 1 < W2.heap.size := by omega
  have HZ2 := Lib.hid hz2
  clear hz2
  have hvN : av.ownBlock ≠ some N ∧ av.ownBlock ≠ some (N + 1) := ⟨fun e => by have := (HS.out.ag e).2.1; have := HN.out; omega, fun e => by have := (HS.out.ag e).2.1; have := HN.out; omega⟩
  have HVN := Lib.hid hvN
  clear hvN
  obtain ⟨i0, hi0, hq0, hq1, hq2⟩ := info_parts lf_infoE
  have HS3 := Lib.hid (HS2.out.next (.cells #[.int .i64 r.xa, .int .i64 r.xb, .int .i64 r.ya, .int .i64 r.yb, .int .i64 (p)] 59))
  go_wp2_with fail
  go_region_law
    ((refine step_append_lies _ (by rfl) _ _ 35 (by rfl) Bn 59 i0 _ 5 40 Tryd.underlying35 hi0 hq0 hq1 hq2 rfl (by omega) av accL.length (lfsCells accL) (by rfl) HS3.out.ol ⟨W2.heap.size, 0, none⟩ 1 1 [.int .i64 r.xa, .int .i64 r.xb, .int .i64 r.ya, .int .i64 r.yb, .int .i64 (p)] (by rfl) (by rfl) (World.news_of_block (cs := #[.int .i64 r.xa, .int .i64 r.xb, .int .i64 r.ya, .int .i64 r.yb, .int .i64 (p)]) (t := 59) (fr := (0, 0)) (heap_alloc_last W2 _)) (lf_mem ⟨r, p⟩) (by omega) (by simp only [maxLen]; omega) (by omega) (by rw [szq]; have := HZ2.out; omega) (W2.heap.size + 1) szq ?_; intro gg cap w9 hown9 hgrow hat hlt9; obtain ⟨c59, f59⟩ := HS3.out.c5 hgrow))
  all_goals
    have HS10 := Lib.hid (HS3.out.leaf (x := ⟨r, p⟩) (H := 0) hgrow hown9 (by omega))
    have HT10 := Lib.hid (((HT2.out.below (bel_drew (bel_alloc (Below.refl _ _)))).app1 hgrow (hat.imp id fun e => by subst e; have := HN.out; have := HZ2.out; omega) 5 (.slice (some ⟨gg, 0, none⟩) (accL.length + 1) cap) (accL.length + 1) cap))
    have HR10 := Lib.hid (box_app (i := 5) (v := .slice (some ⟨gg, 0, none⟩) (accL.length + 1) cap) hgrow (show (W2.alloc (.cells #[.int .i64 r.xa, .int .i64 r.xb, .int .i64 r.ya, .int .i64 r.yb, .int .i64 (p)] 59)).drew.heap[N]? = _ from hpA HR2.out _) HVN.out.1 (show N ≠ wb by omega))
    have HN10 := Lib.hid (box_app (i := 5) (v := .slice (some ⟨gg, 0, none⟩) (accL.length + 1) cap) hgrow (show (W2.alloc (.cells #[.int .i64 r.xa, .int .i64 r.xb, .int .i64 r.ya, .int .i64 r.yb, .int .i64 (p)] 59)).drew.heap[N + 1]? = _ from hpA HN2.out _) HVN.out.2 (show N + 1 ≠ wb by omega))
    obtain ⟨W10, hW10⟩ : ∃ W10, w9.setCell ⟨wb, 5, none⟩ (.slice (some ⟨gg, 0, none⟩) (accL.length + 1) cap) = W10 := ⟨_, rfl⟩
    rw [hW10] at HS10 HT10 HR10 HN10
    rw [hW10]
    clear hown9 hgrow hat hlt9 c59 f59 hW10 c0 c1 c2 c3 c4 c5 c6 cf hrs r0 r1 r2 r3 n0 n1 HS3
    obtain ⟨r0, r1, r2, r3⟩ := cells4 HR10.out
    obtain ⟨n0, n1⟩ := cells2 HN10.out
    go_wp2_with fail
    refine (show Calls Tryd.prog 103 #[.pointer (some ⟨wb, 0, none⟩), .agg #[.int .i64 1, .int .i64 p], .agg #[.int .i64 r.xa, .int .i64 r.xb, .int .i64 r.ya, .int .i64 r.yb]] W10 (IntB (bdP sized l r p) W10) from rboard_any l r ⟨1, p⟩ W10 wb _ lv sized kerf _ _ _ HS10.out.wk (HS10.out.rp.more (by have := HS10.out.hB; have := HS10.out.hwb; have := HS10.out.big; omega)) HRC.out).mono ?_
    rintro e w11 ⟨he, hb11⟩
    subst he
    have HB11 := Lib.hid hb11
    clear hb11
    go_wp2_with fail
    go_ret
    refine ⟨_, cv, HT10.out.below HB11.out, ?_⟩
    by_cases hq0 : bdP sized l r p = 0
    · rw [HRR.out.1 hq0]
      exact ⟨by rw [← hq0]; rfl, at_ + 1, rfl, by rw [List.append_nil]; exact HS10.out.below HB11.out⟩
    · rw [HRR.out.2 hq0]
      rfl

end Go.Proofs.YtbmcfodhjibooaaDoor
