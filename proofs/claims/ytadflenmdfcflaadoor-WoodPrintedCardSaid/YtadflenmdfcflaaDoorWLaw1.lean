/-
  WoodShrinks and WoodDries walked.
-/
import Derived.Test.YtadflenmdfcflaaDoorWRefA
namespace Go.Proofs.YtadflenmdfcflaaDoor
open Go.RowKit Saw Go.Sort

def LawPost (w : World) (e : Ending) (w' : World) : Prop := e = .returned (.bool true) ∧ Below w.heap.size w w'

set_option maxRecDepth 100000 in
set_option maxHeartbeats 1000000 in
theorem woodShrinks_walk (x : Sp) (size moist : Int) (w : World) (hx : SpOk x) (_hs : I64 size) (_hm : I64 moist) (hv : Vars w) :
    Calls Tryd.prog 4 #[.agg (spCells x).toArray, .int .i64 size, .int .i64 moist] w (LawPost w) := by
  have HV := Lib.hid hv
  have c0 := spC0 x
  have hnl := hx.1
  unfold maxLen at hnl
  have hsz : (str x.name).size = x.name.length := size_str _
  have HB := Lib.hid ((Below.refl w.heap.size w).alloc (Nat.le_refl _) (.cells (spCells x).toArray 26))
  clear hv hx _hs _hm
  by_cases hl : 100 < x.name.length
  · go_enter Tryd.func4, Tryd.ntmps4
    go_wp2_with fail
    refine (awake_any _ (HV.out.below HB.out)).mono ?_
    rintro e w1 ⟨rfl, hb1⟩
    have HB1 := Lib.hid (HB.out.trans (hb1.mono (by rw [World.size_alloc]; omega)))
    clear hb1
    go_wp2_with fail
    go_ret
    exact ⟨rfl, HB1.out⟩
  · go_enter Tryd.func4, Tryd.ntmps4
    go_wp2_with fail
    obtain ⟨W1, hW1⟩ : ∃ W1, w.alloc (.cells (spCells x).toArray 26) = W1 := ⟨_, rfl⟩
    obtain ⟨N, hN⟩ : ∃ N, w.heap.size = N := ⟨_, rfl⟩
    have hr1 : W1.rangeAt N 0 (spCells x) := by rw [← hW1, ← hN]; exact rangeAt_block (heap_alloc_last w _)
    have hz1 : N < W1.heap.size := by rw [← hW1, World.size_alloc]; omega
    have HR1 := Lib.hid hr1
    have HB1 := Lib.hid (show Below w.heap.size w W1 by rw [← hW1]; exact HB.out)
    have HV1 := Lib.hid (HV.out.below HB1.out)
    have S1 : Hid (∀ W, Calls Tryd.prog 20 #[.agg (spCells x).toArray, .int .i64 size, .int .i64 moist] W fun e w' => e = .returned (.int .i64 (shrunkP x.shrink size moist)) ∧ Below W.heap.size W w') := fun W => shrunk_any x size moist W
    have S2 : Hid (∀ W, Calls Tryd.prog 21 #[.agg (spCells x).toArray, .int .i64 size, .int .i64 moist] W fun e w' => e = .returned (.int .i64 (shrunkP x.shrink size moist)) ∧ Below W.heap.size W w') := fun W => refShrunk_any x size moist W
    have S3 : Hid (∀ d os, Calls Tryd.prog 12 #[] (grow (redrawn W1 d) os) fun e w' => e = .returned (.bool true) ∧ Below (grow (redrawn W1 d) os).heap.size (grow (redrawn W1 d) os) w') := fun d os => awake_any _ (HV1.out.below (below_regrown W1 d os))
    rw [hW1, hN]
    clear hW1 hN HB hr1
    refine wp_region_quiet_below (by kernel_rfl) (by kernel_rfl) ?_
    repeat (first
      | ((with_reducible refine quiet_load N 0 (spCells x) ?hw ?hx HR1.out hz1 Tryd.underlying26 ?hd ?hi ?_); (case hi => exact sp_info); (case hw => kernel_rfl); (case hx => rfl); (case hd => rfl))
      | (quiet_step ((first | (with_reducible exact Calls.regrown_of (S1.out _)) | (with_reducible exact Calls.regrown_of (S2.out _)) | (with_reducible exact Calls.regrown_of (S3.out _ _))))))
    refine wpQuiet_nil ?_
    rintro w6 ⟨p6, hw6⟩
    have hb6 : Below W1.heap.size W1 w6 := by rw [hw6]; exact below_regrown _ _ _
    have HB6 := Lib.hid (HB1.out.trans (hb6.mono HB1.out.size))
    clear hw6 hb6
    go_wp2_with fail
    go_ret
    exact ⟨rfl, HB6.out⟩

end Go.Proofs.YtadflenmdfcflaaDoor
