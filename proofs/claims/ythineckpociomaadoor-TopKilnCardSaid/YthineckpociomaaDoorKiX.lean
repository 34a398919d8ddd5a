/-
  The law's own soft, pine, green.
-/
import Derived.Test.YthineckpociomaaDoorKiV
import Derived.Test.YthineckpociomaaDoorKiW
namespace Go.Proofs.YthineckpociomaaDoor
open Go.RowKit Saw Go.Sort

set_option maxRecDepth 100000 in
set_option maxHeartbeats 2000000 in
theorem pine_any (w : World) : Calls Tryd.prog 8 #[] w fun e w' => e = .returned (.agg (spCells pineP).toArray) ∧ Below w.heap.size w w' := by
  go_enter Tryd.func8, Tryd.ntmps8
  go_wp2_with (first
    | ((with_reducible refine sp_alloc ?_); intro c2 H2)
    | ((with_reducible refine wpList_buildAs (t := 24) (spCells pineP).toArray ?hf ?_); (case hf => kernel_rfl); intro arr harr; have HARR := Lib.hid harr; clear harr)
    | ((with_reducible refine sp_new pineP w.heap.size ?hx rfl ?hy H2 ?_); (case hx => rfl); (case hy => (rw [← HARR.out]; rfl))))
  exact bodyPost_ret (results_cell1 Tryd.results8 _ _ w.heap.size 0 (spCells pineP) rfl (rangeAt_block (heap_alloc_last w _)) Tryd.underlying24 rfl sp_info) rfl ⟨rfl, bel_alloc (Below.refl _ _)⟩
set_option maxRecDepth 100000 in
set_option maxHeartbeats 2000000 in
theorem green_any (n : Int) (w : World) : Calls Tryd.prog 7 #[.int .i64 n] w fun e w' => e = .returned (.agg (boCells (greenB n)).toArray) ∧ Below w.heap.size w w' := by
  go_enter Tryd.func7, Tryd.ntmps7
  go_wp2_with (first
    | ((with_reducible refine bo_alloc ?_); intro c2 H2)
    | ((with_reducible refine wpList_buildAs (t := 40) (boCells (greenB n)).toArray ?hf ?_); (case hf => kernel_rfl); intro arr harr; have HARR := Lib.hid harr; clear harr)
    | ((with_reducible refine bo_new (greenB n) w.heap.size ?hx rfl ?hy H2 ?_); (case hx => rfl); (case hy => (rw [← HARR.out]; rfl))))
  exact bodyPost_ret (results_cell1 Tryd.results7 _ _ w.heap.size 0 (boCells (greenB n)) rfl (rangeAt_block (heap_alloc_last w _)) Tryd.underlying40 rfl bo_info) rfl ⟨rfl, bel_alloc (Below.refl _ _)⟩
set_option maxRecDepth 100000 in
set_option maxHeartbeats 2000000 in
theorem soft_any (w : World) : Calls Tryd.prog 9 #[] w fun e w' => e = .returned (.agg #[.string (str softP.name), .int .i64 softP.ramp, .slice (some ⟨w.heap.size + 1, 0, none⟩) softP.stages.length 2]) ∧ RdSt w' w'.heap.size (.slice (some ⟨w.heap.size + 1, 0, none⟩) softP.stages.length 2) softP.stages ∧ Below w.heap.size w w' := by
  go_enter Tryd.func9, Tryd.ntmps9
  go_wp2_with fail
  have hz : (w.alloc (.cells #[.string ⟨#[115, 111, 102, 116]⟩, .int .i64 20, .slice (some ⟨w.heap.size + 1, 0, none⟩) 2 2] 27)).heap.size = w.heap.size + 1 := World.size_alloc _ _
  have h0 : ((w.alloc (.cells #[.string ⟨#[115, 111, 102, 116]⟩, .int .i64 20, .slice (some ⟨w.heap.size + 1, 0, none⟩) 2 2] 27)).alloc (.cells #[.int .i64 1500, .int .i64 0, .int .i64 600, .int .i64 200, .int .i64 0, .int .i64 12, .int .i64 600, .int .i64 50] 69)).heap[w.heap.size]? = _ := (Below.heap_alloc _ _ _ (by rw [hz]; omega)).trans (heap_alloc_last w _)
  have h1 := heap_alloc_last (w.alloc (.cells #[.string ⟨#[115, 111, 102, 116]⟩, .int .i64 20, .slice (some ⟨w.heap.size + 1, 0, none⟩) 2 2] 27)) (.cells #[.int .i64 1500, .int .i64 0, .int .i64 600, .int .i64 200, .int .i64 0, .int .i64 12, .int .i64 600, .int .i64 50] 69)
  rw [hz] at h1
  refine bodyPost_ret (results_cell1 Tryd.results9 _ _ w.heap.size 0 _ rfl (rangeAt_block h0) Tryd.underlying27 rfl sc_info) rfl ⟨rfl, ?_, bel_alloc (bel_alloc (Below.refl _ _))⟩
  have hsz := (Array.getElem?_eq_some_iff.1 h1).1
  refine ⟨rfl, show 2 ≤ maxLen by decide, some ⟨w.heap.size + 1, 0, none⟩, 2, rfl, Nat.le_refl _, fun _ => ⟨w.heap.size + 1, 0, rfl, hsz, fun i y hy => ?_⟩⟩
  rw [cell_of_row _ (w.heap.size + 1) (0 + i) _ _ _ h1, Nat.zero_add, List.getElem?_toArray]
  exact hy
end Go.Proofs.YthineckpociomaaDoor
