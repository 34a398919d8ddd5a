/-
  ScheduleEnds walked.
-/
import Derived.Test.YtabdlldkkcjppaaDoorSLaw2
namespace Go.Proofs.YtabdlldkkcjppaaDoor
open Go.RowKit Saw Go.Sort

theorem ksp_info : (Tryd.prog.info? 37).map (·.size) = some 13 := by kernel_rfl
theorem below3 {w : World} {o1 o2 o3 : Obj} : Below w.heap.size w (((w.alloc o1).alloc o2).alloc o3) := bel_alloc (bel_alloc (bel_alloc (Below.refl _ _)))
theorem three_new (w : World) (o1 o2 o3 : Obj) : (((w.alloc o1).alloc o2).alloc o3).heap[w.heap.size]? = some o1 ∧ (((w.alloc o1).alloc o2).alloc o3).heap[w.heap.size + 1]? = some o2 ∧ (((w.alloc o1).alloc o2).alloc o3).heap[w.heap.size + 1 + 1]? = some o3 ∧ (((w.alloc o1).alloc o2).alloc o3).heap.size = w.heap.size + 1 + 1 + 1 := by
  have b2 := heap_alloc_last (w.alloc o1) o2
  have b3 := heap_alloc_last ((w.alloc o1).alloc o2) o3
  rw [World.size_alloc] at b2
  rw [World.size_alloc, World.size_alloc] at b3
  exact ⟨hpA (hpA (heap_alloc_last w o1) _) _, hpA b2 _, b3, by rw [World.size_alloc, World.size_alloc, World.size_alloc]⟩
/-- The boxes of the arguments. -/
def EndBox (w W : World) (s : Sc) (As : Option Addr) (cs : Nat) (a b c : Int) (y : Sp) : Prop :=
  IsSc W w.heap.size s (.slice As s.stages.length cs) ∧ W.heap[w.heap.size + 1]? = some (.cells #[.int .i64 a, .int .i64 b, .int .i64 c] 35 (0, 0)) ∧ W.heap[w.heap.size + 1 + 1]? = some (.cells (kspCells y).toArray 37 (0, 0)) ∧ w.heap.size + 1 + 1 + 1 ≤ W.heap.size ∧ Below w.heap.size w W
theorem EndBox.next {w W W' : World} {s : Sc} {As : Option Addr} {cs : Nat} {a b c : Int} {y : Sp} (h : EndBox w W s As cs a b c y) (hb : Below W.heap.size W W') : EndBox w W' s As cs a b c y := by
  obtain ⟨h1, h2, h3, h4, h5⟩ := h
  exact ⟨h1.below hb (by omega), (hb.block _ (by omega)).trans h2, (hb.block _ (by omega)).trans h3, Nat.le_trans h4 hb.size, bel_call h5 hb⟩

set_option maxRecDepth 100000 in
set_option maxHeartbeats 2000000 in
theorem scheduleEnds_walk (s : Sc) (As : Option Addr) (cs : Nat) (a b c : Int) (y : Sp) (w : World) (hsc : ScArg w s As cs) (_hi : I64 a ∧ I64 b ∧ I64 c) (hy : SpOk y) (hv : VarsS w) :
    Calls Tryd.prog 4 #[.agg #[.string (str s.name), .int .i64 s.ramp, .slice As s.stages.length cs], .agg #[.int .i64 a, .int .i64 b, .int .i64 c], .agg (kspCells y).toArray] w (LawS w) := by
  have HSC := Lib.hid hsc
  have HV := Lib.hid hv
  have hsn : s.name.length ≤ 9223372036854775807 := by have h9 := hsc.2.1; unfold maxLen at h9; omega
  have hss : s.stages.length ≤ 9223372036854775807 := by obtain ⟨_, _, _, _, h9⟩ := hsc.1.form; unfold maxLen at h9; omega
  have hyn : (str y.name).size ≤ 9223372036854775807 := by have h9 := hy.1; unfold maxLen at h9; rw [size_str]; omega
  obtain ⟨W0, hW0⟩ : ∃ W0, ((w.alloc (.cells #[.string (str s.name), .int .i64 s.ramp, .slice As s.stages.length cs] 24)).alloc (.cells #[.int .i64 a, .int .i64 b, .int .i64 c] 35)).alloc (.cells (kspCells y).toArray 37) = W0 := ⟨_, rfl⟩
  obtain ⟨b1, b2, b3, b4⟩ := three_new w (.cells #[.string (str s.name), .int .i64 s.ramp, .slice As s.stages.length cs] 24) (.cells #[.int .i64 a, .int .i64 b, .int .i64 c] 35) (.cells (kspCells y).toArray 37)
  rw [hW0] at b1 b2 b3 b4
  have HE0 := Lib.hid (show EndBox w W0 s As cs a b c y from ⟨b1, b2, b3, by omega, by rw [← hW0]; exact below3⟩)
  have HW0 := Lib.hid (show ((w.alloc (.cells #[.string (str s.name), .int .i64 s.ramp, .slice As s.stages.length cs] 24)).alloc (.cells #[.int .i64 a, .int .i64 b, .int .i64 c] 35)).alloc (.cells #[.string (str y.name), .int .i64 y.green, .int .i64 y.fast, .int .i64 y.slow, .int .i64 y.safe, .int .i64 y.grad, .int .i64 y.crack, .int .i64 y.temp, .int .i64 y.depress, .int .i64 y.density, .int .i64 y.stiff, .int .i64 y.knots, .int .i64 y.shrink] 37) = W0 from hW0)
  have hsz0 := b4
  clear hv hsc hW0 b1 b2 b3 b4 hy
  show Calls Tryd.prog 4 #[.agg #[.string (str s.name), .int .i64 s.ramp, .slice As s.stages.length cs], .agg #[.int .i64 a, .int .i64 b, .int .i64 c], .agg #[.string (str y.name), .int .i64 y.green, .int .i64 y.fast, .int .i64 y.slow, .int .i64 y.safe, .int .i64 y.grad, .int .i64 y.crack, .int .i64 y.temp, .int .i64 y.depress, .int .i64 y.density, .int .i64 y.stiff, .int .i64 y.knots, .int .i64 y.shrink]] w (LawS w)
  go_enter Tryd.func4, Tryd.ntmps4
  go_wp2_with fail
  rw [HW0.out]
  refine (small_any s As cs _ hsn hss).mono ?_
  rintro e w1 ⟨he, hb1⟩
  have HE1 := Lib.hid (HE0.out.next hb1)
  have q0 : w1.cell? ⟨w.heap.size + 1 + 1, 0, none⟩ = some (.string (str y.name)) := cell_of_box HE1.out.2.2.1 rfl
  clear hb1
  obtain ⟨q, hq⟩ : ∃ q, smallOne s = q := ⟨_, rfl⟩
  rw [hq] at he
  subst he
  cases q with
  | false =>
    clear hq
    go_wp2_with fail
    refine (awakeS_any _ (HV.out.to2 HE1.out.2.2.2.2)).mono ?_
    rintro e w2 ⟨rfl, hb2⟩
    have HB2 := Lib.hid (HE1.out.next hb2).2.2.2.2
    clear hb2
    go_wp2_with fail
    go_ret
    exact ⟨rfl, HB2.out⟩
  | true =>
    clear hq
    by_cases h100 : 100 < (str y.name).size
    · go_wp2_with fail
      refine (awakeS_any _ (HV.out.to2 HE1.out.2.2.2.2)).mono ?_
      rintro e w2 ⟨rfl, hb2⟩
      have HB2 := Lib.hid (HE1.out.next hb2).2.2.2.2
      clear hb2
      go_wp2_with fail
      go_ret
      exact ⟨rfl, HB2.out⟩
    · obtain ⟨c0, c1, c2, _, _, _, _⟩ := HE1.out.1.cells
      have i0 : w1.cell? ⟨w.heap.size + 1, 0, none⟩ = some (.int .i64 a) := cell_of_box HE1.out.2.1 rfl
      have i1 : w1.cell? ⟨w.heap.size + 1, 1, none⟩ = some (.int .i64 b) := cell_of_box HE1.out.2.1 rfl
      have i2 : w1.cell? ⟨w.heap.size + 1, 2, none⟩ = some (.int .i64 c) := cell_of_box HE1.out.2.1 rfl
      go_wp2_with fail
      refine (ends_any s As cs a b c _ (HSC.out.1.next HE1.out.2.2.2.2)).mono ?_
      rintro e w2 ⟨he, hb2⟩
      obtain ⟨r1, r2, hr⟩ : ∃ r1 r2, endsSc s a b c = (r1, r2) := ⟨_, _, rfl⟩
      rw [hr] at he
      subst he
      have HE2 := Lib.hid (HE1.out.next hb2)
      clear hb2 c0 c1 c2 i0 i1 i2 q0
      obtain ⟨c0, c1, c2, _, _, _, _⟩ := HE2.out.1.cells
      have i0 : w2.cell? ⟨w.heap.size + 1, 0, none⟩ = some (.int .i64 a) := cell_of_box HE2.out.2.1 rfl
      have i1 : w2.cell? ⟨w.heap.size + 1, 1, none⟩ = some (.int .i64 b) := cell_of_box HE2.out.2.1 rfl
      have i2 : w2.cell? ⟨w.heap.size + 1, 2, none⟩ = some (.int .i64 c) := cell_of_box HE2.out.2.1 rfl
      go_wp2_with fail
      refine (rends_any s As cs a b c _ (HSC.out.1.next HE2.out.2.2.2.2)).mono ?_
      rintro e w3 ⟨he, hb3⟩
      rw [hr] at he
      subst he
      have HE3 := Lib.hid (HE2.out.next hb3)
      clear hb3 c0 c1 c2 i0 i1 i2 hr
      obtain ⟨t1, t2, ht⟩ : ∃ t1 t2, targetP s a y.temp y.depress = (t1, t2) := ⟨_, _, rfl⟩
      have h11 : (r1 == r1) = true := by simp
      have h22 : (r2 == r2) = true := by simp
      have heq : ∀ W : World, (binOp .eql 41 (.agg #[.int .i64 t1, .int .i64 t2]) (.agg #[.int .i64 t1, .int .i64 t2])).run Tryd.prog W = .ok (.bool true) W := fun W => by rw [eqlC]; simp
      have hgg := fun W x' y' xs ys => run_eqGuard_agg (P := Tryd.prog) W .eql 41 x' y' xs ys guard_clim
      have S1 : Hid (∀ d os, Calls Tryd.prog 21 #[.agg #[.string (str s.name), .int .i64 s.ramp, .slice As s.stages.length cs], .int .i64 a, .agg (kspCells y).toArray] (grow (redrawn w3 d) os) fun e w' => e = .returned (.agg #[.int .i64 t1, .int .i64 t2]) ∧ Below (grow (redrawn w3 d) os).heap.size (grow (redrawn w3 d) os) w') := fun d os =>
        (target_any s As cs a y _ ((HSC.out.1.next HE3.out.2.2.2.2).next (below_regrown w3 d os))).mono fun e w' ⟨he, hb⟩ => ⟨by rw [he, ht], hb⟩
      have S2 : Hid (∀ d os, Calls Tryd.prog 22 #[.agg #[.string (str s.name), .int .i64 s.ramp, .slice As s.stages.length cs], .int .i64 a, .agg (kspCells y).toArray] (grow (redrawn w3 d) os) fun e w' => e = .returned (.agg #[.int .i64 t1, .int .i64 t2]) ∧ Below (grow (redrawn w3 d) os).heap.size (grow (redrawn w3 d) os) w') := fun d os =>
        (rtarget_any s As cs a y _ ((HSC.out.1.next HE3.out.2.2.2.2).next (below_regrown w3 d os))).mono fun e w' ⟨he, hb⟩ => ⟨by rw [he, ht], hb⟩
      have S4 : Hid (∀ d os, Calls Tryd.prog 13 #[] (grow (redrawn w3 d) os) fun e w' => e = .returned (.bool true) ∧ Below (grow (redrawn w3 d) os).heap.size (grow (redrawn w3 d) os) w') := fun d os =>
        awakeS_any _ ((HV.out.to2 HE3.out.2.2.2.2).to2 (below_regrown w3 d os))
      have y0 : ∀ d os, (grow (redrawn w3 d) os).cell? ⟨w.heap.size, 0, none⟩ = some (.string (str s.name)) := fun d os => (is_sc_cells HE3.out.1 d os).1
      have y1 : ∀ d os, (grow (redrawn w3 d) os).cell? ⟨w.heap.size, 1, none⟩ = some (.int .i64 s.ramp) := fun d os => (is_sc_cells HE3.out.1 d os).2.1
      have y2 : ∀ d os, (grow (redrawn w3 d) os).cell? ⟨w.heap.size, 2, none⟩ = some (.slice As s.stages.length cs) := fun d os => (is_sc_cells HE3.out.1 d os).2.2
      have x0 : ∀ d os, (grow (redrawn w3 d) os).cell? ⟨w.heap.size + 1, 0, none⟩ = some (.int .i64 a) := fun d os => cell_regrown (cell_of_box HE3.out.2.1 rfl) d os
      have HRG := Lib.hid (show w3.rangeAt (w.heap.size + 1 + 1) 0 (kspCells y) from rangeAt_block HE3.out.2.2.1)
      have hN5 : w.heap.size + 1 + 1 < w3.heap.size := by have := HE3.out.2.2.2.1; omega
      go_wp2_with fail
      refine wp_region_quiet_below (by kernel_rfl) (by kernel_rfl) ?_
      repeat (first
        | ((with_reducible refine quiet_load (w.heap.size + 1 + 1) 0 (kspCells y) ?hw ?hx HRG.out hN5 Tryd.underlying37 ?hd ?hi ?_); (case hi => exact ksp_info); (case hw => kernel_rfl); (case hx => rfl); (case hd => rfl))
        | (open Go.BigFrame in go_big_quiet_step ((first | (with_reducible exact Calls.regrown_of (S1.out _ _)) | (with_reducible exact Calls.regrown_of (S2.out _ _)) | (with_reducible exact Calls.regrown_of (S4.out _ _)))))
        | (quiet_step ((first | (with_reducible exact Calls.regrown_of (S1.out _ _)) | (with_reducible exact Calls.regrown_of (S2.out _ _)) | (with_reducible exact Calls.regrown_of (S4.out _ _))))))
      refine wpQuiet_nil ?_
      rintro w6 ⟨p6, hw6⟩
      have HBX := Lib.hid (HE3.out.2.2.2.2.trans ((show Below w3.heap.size w3 w6 by rw [hw6]; exact below_regrown _ _ _).mono HE3.out.2.2.2.2.size))
      clear hw6 y0 y1 y2 x0
      go_wp2_with fail
      go_ret
      exact ⟨rfl, HBX.out⟩

end Go.Proofs.YtabdlldkkcjppaaDoor
