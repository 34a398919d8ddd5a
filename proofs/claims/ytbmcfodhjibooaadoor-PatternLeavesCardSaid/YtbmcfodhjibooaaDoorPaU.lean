/-
  The reference's walker: its block, and board.
-/
import Derived.Test.YtbmcfodhjibooaaDoorPaS
namespace Go.Proofs.YtbmcfodhjibooaaDoor
open Go.RowKit Saw Go.Sort

/-- The walker's block. -/
def WkAt (w : World) (wb : Nat) (nv lv : Value) (sized : Bool) (kerf : Int) (at_ : Nat) (av cv : Value) : Prop :=
  w.heap[wb]? = some (.cells #[nv, lv, .bool sized, .int .i64 kerf, .int .i64 at_, av, cv] 129 (0, 0))
theorem WkAt.cells {w : World} {wb : Nat} {nv lv : Value} {sized : Bool} {kerf : Int} {at_ : Nat} {av cv : Value} (h : WkAt w wb nv lv sized kerf at_ av cv) :
    w.cell? ⟨wb, 0, none⟩ = some nv ∧ w.cell? ⟨wb, 1, none⟩ = some lv ∧ w.cell? ⟨wb, 2, none⟩ = some (.bool sized) ∧ w.cell? ⟨wb, 3, none⟩ = some (.int .i64 kerf) ∧ w.cell? ⟨wb, 4, none⟩ = some (.int .i64 at_) ∧ w.cell? ⟨wb, 5, none⟩ = some av ∧ w.cell? ⟨wb, 6, none⟩ = some cv ∧ (∀ i, w.frozen? ⟨wb, i, none⟩ = false) ∧ wb < w.heap.size :=
  ⟨cell_of_box h rfl, cell_of_box h rfl, cell_of_box h rfl, cell_of_box h rfl, cell_of_box h rfl, cell_of_box h rfl, cell_of_box h rfl, frz h, (Array.getElem?_eq_some_iff.1 h).1⟩

set_option maxRecDepth 100000 in
set_option maxHeartbeats 1000000 in
theorem rboardU_any (r : Rc) (n : Nd) (w : World) (wb : Nat) (nv lv : Value) (kerf : Int) (at_ : Nat) (av cv : Value) (h : WkAt w wb nv lv false kerf at_ av cv) :
    Calls Tryd.prog 103 #[.pointer (some ⟨wb, 0, none⟩), ndV n, rcV r] w (IntB (anyB r n.pos) w) := by
  obtain ⟨q, hq⟩ : ∃ q, anyB r n.pos = q := ⟨_, rfl⟩
  rw [hq]
  unfold anyB at hq
  rw [show rcV r = .agg #[.int .i64 r.xa, .int .i64 r.xb, .int .i64 r.ya, .int .i64 r.yb] from rfl]
  unfold ndV
  obtain ⟨c0, c1, c2, c3, c4, c5, c6, cf, hrs⟩ := h.cells
  by_cases k0 : n.pos < 0
  · have hz : q = 8 := by rw [← hq, if_pos (.inl k0)]
    subst hz
    clear hq
    go_enter Tryd.func103, Tryd.ntmps103
    go_wp2_with fail
    go_ret
    exact ⟨rfl, by repeat (first | exact Below.refl _ _ | apply bel_alloc)⟩
  · by_cases k1 : 16 ≤ n.pos
    · have hz : q = 8 := by rw [← hq, if_pos (.inr k1)]
      subst hz
      clear hq
      go_enter Tryd.func103, Tryd.ntmps103
      go_wp2_with fail
      go_ret
      exact ⟨rfl, by repeat (first | exact Below.refl _ _ | apply bel_alloc)⟩
    · have hz : q = 0 := by rw [← hq, if_neg (by omega)]
      subst hz
      clear hq
      go_enter Tryd.func103, Tryd.ntmps103
      go_wp2_with fail
      go_ret
      exact ⟨rfl, by repeat (first | exact Below.refl _ _ | apply bel_alloc)⟩

end Go.Proofs.YtbmcfodhjibooaaDoor
