/-
  The reference's board, where the sizes are asked for.
-/
import Derived.Test.YtbmcfodhjibooaaDoorPaU
namespace Go.Proofs.YtbmcfodhjibooaaDoor
open Go.RowKit Saw Go.Sort

theorem bel_drewN {n m : Nat} {w W : World} (h : Below n w W) : Below n w (W.drewN m) := ⟨h.os, h.tape, h.output, h.size, h.block⟩
set_option maxRecDepth 100000 in
set_option maxHeartbeats 2000000 in
theorem rboardS_any (l : List Pr) (r : Rc) (n : Nd) (w : World) (wb : Nat) (nv lv : Value) (kerf : Int) (at_ : Nat) (av cv : Value) (h : WkAt w wb nv lv true kerf at_ av cv) (hrd : RdPr w w.heap.size lv l) (hr : RcOk r) :
    Calls Tryd.prog 103 #[.pointer (some ⟨wb, 0, none⟩), ndV n, rcV r] w (IntB (boardP l r n.pos) w) := by
  obtain ⟨A, c, rfl, hc, hml⟩ := hrd.form
  unfold maxLen at hml
  obtain ⟨q, hq⟩ : ∃ q, boardP l r n.pos = q := ⟨_, rfl⟩
  rw [hq]
  unfold boardP at hq
  rw [show rcV r = .agg #[.int .i64 r.xa, .int .i64 r.xb, .int .i64 r.ya, .int .i64 r.yb] from rfl]
  unfold ndV
  obtain ⟨c0, c1, c2, c3, c4, c5, c6, cf, hrs⟩ := h.cells
  have HQ := Lib.hid hq
  have HRD := Lib.hid hrd
  have HRO := Lib.hid hr
  obtain ⟨k, hk⟩ : ∃ k, n.pos = k := ⟨_, rfl⟩
  rw [hk] at HQ ⊢
  clear hq hrd hr hk
  by_cases k0 : k < 0
  · have hz : q = 8 := by rw [← HQ.out, if_pos k0]
    subst hz
    clear HQ
    have hd : decide (k < 0) = true := decide_eq_true k0
    go_enter Tryd.func103, Tryd.ntmps103
    go_wp2_with fail
    go_quiet (fail)
    go_wp2_with fail
    go_ret
    exact ⟨rfl, bel_drewN (by repeat (first | exact Below.refl _ _ | apply bel_alloc))⟩
  obtain ⟨j, rfl⟩ : ∃ j : Nat, k = (j : Int) := ⟨k.toNat, by omega⟩
  have hd : decide ((j : Int) < 0) = false := decide_eq_false k0
  by_cases kl : j < l.length
  · have hx : l[j]? = some l[j] := List.getElem?_eq_getElem kl
    obtain ⟨x, hxe⟩ : ∃ x, l[j] = x := ⟨_, rfl⟩
    rw [hxe] at hx
    obtain ⟨G1, hG1⟩ : ∃ G, (greenP x).1 = G := ⟨_, rfl⟩
    obtain ⟨G2, hG2⟩ : ∃ G, (greenP x).2 = G := ⟨_, rfl⟩
    have HQ1 := Lib.hid (show (if (r.xb - r.xa = G1 ∧ r.yb - r.ya = G2) ∨ (r.xb - r.xa = G2 ∧ r.yb - r.ya = G1) then (0 : Int) else 20) = q by
      have h := HQ.out
      rw [if_neg k0, Int.toNat_natCast, hx] at h
      simp only [hG1, hG2] at h
      exact h)
    clear HQ
    obtain ⟨pb, po, A1, c1', A2, c2', rfl, hpb, _, _, _, _, d0, d1, d2, d3, d4, d5, d6⟩ := RdPr.at_ HRD.out hx
    have HG := Lib.hid (And.intro hG1 hG2)
    have HPC := Lib.hid (show w.rangeAt pb (po + j * 7) (prCells x (.slice A1 x.lens.length c1') (.slice A2 x.prices.length c2')) from fun i v hv => by
      have hi : i < 7 := (List.getElem?_eq_some_iff.1 hv).1
      match i, hi with
      | 0, _ => injection hv with hv; subst hv; exact d0
      | 1, _ => injection hv with hv; subst hv; exact d1
      | 2, _ => injection hv with hv; subst hv; exact d2
      | 3, _ => injection hv with hv; subst hv; exact d3
      | 4, _ => injection hv with hv; subst hv; exact d4
      | 5, _ => injection hv with hv; subst hv; exact d5
      | 6, _ => injection hv with hv; subst hv; exact d6)
    clear hG1 hG2 hx hxe
    have hd2 : decide ((l.length : Int) ≤ j) = false := decide_eq_false (by omega)
    go_enter Tryd.func103, Tryd.ntmps103
    go_wp2_with fail
    go_quiet (fail)
    go_wp2_with fail
    go_region_with (go_at_call 38; refine (refGreen_any x A1 A2 _ c1' _ c2' _).mono ?_; rintro e w1 ⟨he, hb⟩; rw [HG.out.1, HG.out.2] at he; subst he; have hrb := (hb.block (w.heap.size + 1) (by show w.heap.size + 1 < ((w.alloc _).alloc _).heap.size; simp only [World.size_alloc]; omega)).trans (show ((w.alloc (.cells #[.int .i64 n.kind, .int .i64 j] 64)).alloc (.cells #[.int .i64 r.xa, .int .i64 r.xb, .int .i64 r.ya, .int .i64 r.yb] 25)).heap[w.heap.size + 1]? = some (.cells #[.int .i64 r.xa, .int .i64 r.xb, .int .i64 r.ya, .int .i64 r.yb] 25 (0, 0)) from by have h := heap_alloc_last (w.alloc (.cells #[.int .i64 n.kind, .int .i64 j] 64)) (.cells #[.int .i64 r.xa, .int .i64 r.xb, .int .i64 r.ya, .int .i64 r.yb] 25); rw [World.size_alloc] at h; exact h); have HRB := Lib.hid hrb; have HBB := Lib.hid (show Below w.heap.size w w1 from ⟨hb.os, hb.tape, hb.output, Nat.le_trans (by show w.heap.size ≤ ((w.alloc _).alloc _).heap.size; simp only [World.size_alloc]; omega) hb.size, fun k hk => (hb.block k (by show k < ((w.alloc _).alloc _).heap.size; simp only [World.size_alloc]; omega)).trans ((Below.heap_alloc _ _ _ (by rw [World.size_alloc]; omega)).trans (Below.heap_alloc _ _ _ hk))⟩))
    all_goals
      obtain ⟨y0, y1, y2, y3⟩ := cells4 HRB.out
      obtain ⟨o1, o2, o3, o4, o5, o6⟩ := HRO.out
      go_wp2_with fail
      go_quiet (fail)
      go_wp2_with fail
      all_goals go_ret
      all_goals refine ⟨ret_int ?_, ?_⟩
      all_goals first
        | (rw [← HQ1.out]; simp_all; done)
        | (rw [← HQ1.out]; simp_all; omega)
        | exact bel_drewN HBB.out
  · have hz : q = 8 := by rw [← HQ.out, if_neg k0, Int.toNat_natCast, List.getElem?_eq_none (by omega)]
    subst hz
    clear HQ
    have hd2 : decide ((l.length : Int) ≤ j) = true := decide_eq_true (by omega)
    go_enter Tryd.func103, Tryd.ntmps103
    go_wp2_with fail
    go_quiet (fail)
    go_wp2_with fail
    go_ret
    exact ⟨rfl, bel_drewN (by repeat (first | exact Below.refl _ _ | apply bel_alloc))⟩

end Go.Proofs.YtbmcfodhjibooaaDoor
