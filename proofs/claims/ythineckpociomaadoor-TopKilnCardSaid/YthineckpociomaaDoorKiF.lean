/-
  The contracts of air.Outside, clamp, toward, Next; slices.Contains of numbers.
-/
import Derived.Test.YthineckpociomaaDoorKiE
namespace Go.Proofs.YthineckpociomaaDoor
open Go.RowKit Saw

def cmV (a : Cm) : Value := .agg #[.int .i64 a.temp, .int .i64 a.dep]
def CmB (a : Cm) (w : World) (e : Ending) (w' : World) : Prop := e = .returned (cmV a) ∧ Below w.heap.size w w'
theorem cm_info : (Tryd.prog.info? 42).map (·.size) = some 2 := by kernel_rfl
theorem cm_frz {W : World} {N : Nat} {a : Cm} (h : W.heap[N]? = some (cmO a)) : W.frozen? ⟨N, 0, none⟩ = false ∧ W.frozen? ⟨N, 1, none⟩ = false := ⟨frz h 0, frz h 1⟩
/-- Two boxes of climates. -/
structure Cm2 (w W : World) (N : Nat) (a b : Cm) : Prop where
  b1 : W.heap[N]? = some (cmO a)
  b2 : W.heap[N + 1]? = some (cmO b)
  bel : Below N w W
theorem cm2 (w : World) (a b : Cm) : Cm2 w ((w.alloc (cmO a)).alloc (cmO b)) w.heap.size a b := by
  have a2 := heap_alloc_last (w.alloc (cmO a)) (cmO b)
  simp only [World.size_alloc] at a2
  exact ⟨hpA (heap_alloc_last w _) _, a2, bel_alloc (bel_alloc (Below.refl _ _))⟩
section
variable {w W W5 : World} {N : Nat} {a b : Cm}
theorem Cm2.sz (h : Cm2 w W N a b) : N + 1 < W.heap.size := (Array.getElem?_eq_some_iff.1 h.b2).1
theorem Cm2.below (h : Cm2 w W N a b) (hb : Below W.heap.size W W5) : Cm2 w W5 N a b := by
  have hz := h.sz
  exact ⟨(hb.block _ (by omega)).trans h.b1, (hb.block _ hz).trans h.b2, h.bel.trans (hb.mono (by omega))⟩
theorem Cm2.put (h : Cm2 w W N a b) {x : Cm} : Cm2 w ((W.setCell ⟨N + 1, 0, none⟩ (.int .i64 x.temp)).setCell ⟨N + 1, 1, none⟩ (.int .i64 x.dep)) N a x := by
  have hN : N ≤ N + 1 := by omega
  exact ⟨(Below.heap_setCell _ _ _ _ (show N ≠ N + 1 by omega)).trans ((Below.heap_setCell _ _ _ _ (show N ≠ N + 1 by omega)).trans h.b1), setc_heap (setc_heap h.b2 _ 0) _ 1, Below.setCell (Below.setCell h.bel (p := ⟨N + 1, 0, none⟩) hN _) (p := ⟨N + 1, 1, none⟩) hN _⟩
theorem Cm2.set (h : Cm2 w W N a b) (j : Nat) (v : Value) (a' : Cm) (hc : (#[.int .i64 a.temp, .int .i64 a.dep] : Array Value).setIfInBounds j v = #[.int .i64 a'.temp, .int .i64 a'.dep]) : Cm2 w (W.setCell ⟨N, j, none⟩ v) N a' b := by
  refine ⟨?_, (Below.heap_setCell _ _ _ _ (show N + 1 ≠ N by omega)).trans h.b2, Below.setCell h.bel (show N ≤ Addr.block ⟨N, j, none⟩ from Nat.le_refl _) _⟩
  have g := setc_heap h.b1 v j
  rw [hc] at g
  exact g
end
theorem HCLAMP (n lo hi : Int) (W : World) : Calls Tryd.prog 52 #[.int .i64 n, .int .i64 lo, .int .i64 hi] W fun e w' => e = .returned (.int .i64 (clampP n lo hi)) ∧ Below W.heap.size W w' :=
  (clamp_any n lo hi W).mono fun e w' h => ⟨h.1, by rw [h.2]; exact Below.refl _ _⟩

set_option maxHeartbeats 400000 in
theorem outside_any (w : World) : Calls Tryd.prog 23 #[] w (CmB ⟨200, 100⟩ w) := by
  have hc := heap_alloc_last w (cmO ⟨200, 100⟩)
  have HC := Lib.hid hc
  clear hc
  go_enter Tryd.func23, Tryd.ntmps23
  go_wp2_with fail
  exact bodyPost_ret (results_cell1 Tryd.results23 _ _ w.heap.size 0 _ rfl (rangeAt_block HC.out) Tryd.underlying42 rfl cm_info) rfl ⟨rfl, bel_alloc (Below.refl _ _)⟩

set_option maxRecDepth 100000 in
set_option maxHeartbeats 1000000 in
theorem airClamp_any (a : Cm) (w : World) : Calls Tryd.prog 50 #[.agg #[.int .i64 a.temp, .int .i64 a.dep]] w (CmB (clampCm a) w) := by
  obtain ⟨N, hN⟩ : ∃ N, w.heap.size = N := ⟨_, rfl⟩
  have HN := Lib.hid hN
  have HB := Lib.hid (show Cm2 w ((w.alloc (cmO a)).alloc (cmO ⟨0, 0⟩)) N a ⟨0, 0⟩ by rw [← hN]; exact cm2 w a ⟨0, 0⟩)
  obtain ⟨P, hP⟩ : ∃ P, clampP a.temp 0 1200 = P := ⟨_, rfl⟩
  obtain ⟨Q, hQ⟩ : ∃ Q, clampP a.dep 0 400 = Q := ⟨_, rfl⟩
  have HP : Hid (∀ W, Calls Tryd.prog 52 #[.int .i64 a.temp, .int .i64 0, .int .i64 1200] W fun e w' => e = .returned (.int .i64 P) ∧ Below W.heap.size W w') := Lib.hid (fun W => by rw [← hP]; exact HCLAMP _ _ _ W)
  have HQ : Hid (∀ W, Calls Tryd.prog 52 #[.int .i64 a.dep, .int .i64 0, .int .i64 400] W fun e w' => e = .returned (.int .i64 Q) ∧ Below W.heap.size W w') := Lib.hid (fun W => by rw [← hQ]; exact HCLAMP _ _ _ W)
  have HR : Hid (clampCm a = ⟨P, Q⟩) := Lib.hid (by rw [clampCm, hP, hQ])
  clear hN hP hQ
  rw [HR.out]
  go_enter Tryd.func50, Tryd.ntmps50
  go_wp2_with fail
  obtain ⟨W1, hW1⟩ : ∃ W1, (w.alloc (cmO a)).alloc (cmO ⟨0, 0⟩) = W1 := ⟨_, rfl⟩
  rw [hW1] at HB
  rw [show ((w.alloc (.cells #[.int .i64 a.temp, .int .i64 a.dep] 42)).alloc (.cells #[.int .i64 0, .int .i64 0] 42)) = W1 from hW1, HN.out]
  clear hW1
  have y0 := cell_regrown (cm_cells HB.out.b1).1
  have y1 := cell_regrown (cm_cells HB.out.b1).2
  refine wp_region_below_tail 7 (by kernel_rfl) (by kernel_rfl) ?_
  simp only [List.take_succ_cons, List.take_zero, List.drop_succ_cons, List.drop_zero]
  repeat (first
    | (open Go.BigFrame in go_big_quiet_step ((first | (with_reducible exact Calls.regrown_of (HP.out _)) | (with_reducible exact Calls.regrown_of (HQ.out _)))))
    | (quiet_step ((first | (with_reducible exact Calls.regrown_of (HP.out _)) | (with_reducible exact Calls.regrown_of (HQ.out _))))))
  refine wpQuiet_nil ?_
  intro w2 hb2
  have HE := Lib.hid ((HB.out.below hb2).put (x := ⟨P, Q⟩))
  obtain ⟨x0, x1⟩ := cm_cells (HB.out.below hb2).b2
  obtain ⟨f0, f1⟩ := cm_frz (HB.out.below hb2).b2
  clear hb2 y0 y1
  go_wp2_with fail
  exact bodyPost_ret (results_cell1 Tryd.results50 _ _ (N + 1) 0 _ rfl (rangeAt_block HE.out.b2) Tryd.underlying42 rfl cm_info) rfl ⟨rfl, by rw [HN.out]; exact HE.out.bel⟩

theorem contains_any (l : List Int) (v : Value) (n : Int) (w : World) (hrd : RdI w w.heap.size v l) :
    Calls Tryd.prog 56 #[v, .int .i64 n] w fun e w' => e = .returned (.bool (l.contains n)) ∧ w' = w := by
  obtain ⟨A, c, rfl, hc, hml⟩ := hrd.form
  unfold maxLen at hml
  by_cases h0 : l.length = 0
  · obtain rfl : l = [] := List.eq_nil_of_length_eq_zero h0
    exact Tryd.slices_Contains_int_empty A c n w
  · obtain ⟨_, _, A', c', he, _, h3⟩ := hrd
    injection he with e1 e2 e3
    subst e1
    obtain ⟨b, off, rfl, hb, hcell⟩ := h3 (by omega)
    have h := Tryd.slices_Contains_int b off l.length c l n w (Nat.le_refl _) (by omega) (fun j hj => hcell j _ (by rw [ints, List.getElem?_map, List.getElem?_eq_getElem hj, List.getD_eq_getElem?_getD, List.getElem?_eq_getElem hj]; rfl))
    rw [List.take_length] at h
    exact h

set_option maxRecDepth 100000 in
set_option maxHeartbeats 4000000 in
theorem toward2_tt (t : Cm) (fl : List Int) (v : Value) (w : World) (hrd : RdI w w.heap.size v fl) (q1 : fl.contains 1 = true) (q3 : fl.contains 3 = true) : Calls Tryd.prog 51 #[.agg #[.int .i64 t.temp, .int .i64 t.dep], v] w (CmB ⟨200, 100⟩ w) := by
  obtain ⟨N, hN⟩ : ∃ N, w.heap.size = N := ⟨_, rfl⟩
  have HN := Lib.hid hN
  have HB := Lib.hid (show Cm2 w ((w.alloc (cmO t)).alloc (cmO ⟨0, 0⟩)) N t ⟨0, 0⟩ by rw [← hN]; exact cm2 w t ⟨0, 0⟩)
  obtain ⟨W1, hW1⟩ : ∃ W1, (w.alloc (cmO t)).alloc (cmO ⟨0, 0⟩) = W1 := ⟨_, rfl⟩
  rw [hW1] at HB
  have HRD := Lib.hid (hrd.next (w' := W1) (by rw [hN]; exact HB.out.bel))
  have HQ1 := Lib.hid q1
  have HQ3 := Lib.hid q3
  have HW1 := Lib.hid (show ((w.alloc (.cells #[.int .i64 t.temp, .int .i64 t.dep] 42)).alloc (.cells #[.int .i64 0, .int .i64 0] 42)) = W1 from hW1)
  clear hN hrd q1 q3 hW1
  have fl0 : ∀ W, (Instr.field 42 (.agg #[.int .i64 200, .int .i64 100]) 0).run Tryd.prog W = .ok (.int .i64 200) W := fun _ => by kernel_rfl
  have fl1 : ∀ W, (Instr.field 42 (.agg #[.int .i64 200, .int .i64 100]) 1).run Tryd.prog W = .ok (.int .i64 100) W := fun _ => by kernel_rfl
  go_enter Tryd.func51, Tryd.ntmps51
  go_wp2_with fail
  rw [HW1.out, HN.out]
  refine (contains_any fl v 1 _ HRD.out).mono ?_
  rintro e w2 ⟨he, hw⟩
  rw [HQ1.out] at he
  subst he
  rw [hw]
  clear hw
  go_wp2_with fail
  refine (contains_any fl v 3 _ HRD.out).mono ?_
  rintro e w3 ⟨he, hw⟩
  rw [HQ3.out] at he
  subst he
  rw [hw]
  clear hw
  go_wp2_with fail
  refine (outside_any W1).mono ?_
  rintro e w6 ⟨he, hb⟩
  have he : e = .returned (.agg #[.int .i64 200, .int .i64 100]) := he
  subst he
  have HX1 := Lib.hid (HB.out.below hb)
  have HS1 := Lib.hid (HX1.out.set 1 (.int .i64 100) ⟨t.temp, 100⟩ rfl)
  obtain ⟨x0, x1⟩ := cm_cells HX1.out.b1
  obtain ⟨f0, f1⟩ := cm_frz HX1.out.b1
  (try simp only at x0 x1)
  clear hb
  go_upto_region 7 with fail
  obtain ⟨V1, hV1⟩ : ∃ V, w6.setCell ⟨N, 1, none⟩ (.int .i64 100) = V := ⟨_, rfl⟩
  rw [hV1] at HS1 ⊢
  clear hV1 x0 x1 f0 f1
  go_wp2_with fail
  refine (outside_any V1).mono ?_
  rintro e w7 ⟨he, hb⟩
  have he : e = .returned (.agg #[.int .i64 200, .int .i64 100]) := he
  subst he
  have HX2 := Lib.hid (HS1.out.below hb)
  have HS2 := Lib.hid (HX2.out.set 0 (.int .i64 200) ⟨200, 100⟩ rfl)
  obtain ⟨x0, x1⟩ := cm_cells HX2.out.b1
  obtain ⟨f0, f1⟩ := cm_frz HX2.out.b1
  (try simp only at x0 x1)
  clear hb
  go_upto_region 9 with fail
  obtain ⟨V2, hV2⟩ : ∃ V, w7.setCell ⟨N, 0, none⟩ (.int .i64 200) = V := ⟨_, rfl⟩
  rw [hV2] at HS2 ⊢
  clear hV2 x0 x1 f0 f1
  obtain ⟨x0, x1⟩ := cm_cells HS2.out.b1
  obtain ⟨y0, y1⟩ := cm_cells HS2.out.b2
  obtain ⟨g0, g1⟩ := cm_frz HS2.out.b2
  (try simp only at x0 x1 y0 y1)
  have HE := Lib.hid (HS2.out.put (x := ⟨200, 100⟩))
  go_wp2_with fail
  exact bodyPost_ret (results_cell1 Tryd.results51 _ _ (N + 1) 0 _ rfl (rangeAt_block HE.out.b2) Tryd.underlying42 rfl cm_info) rfl ⟨rfl, by rw [HN.out]; exact HE.out.bel⟩

set_option maxRecDepth 100000 in
set_option maxHeartbeats 4000000 in
theorem toward2_tf (t : Cm) (fl : List Int) (v : Value) (w : World) (hrd : RdI w w.heap.size v fl) (q1 : fl.contains 1 = true) (q3 : fl.contains 3 = false) : Calls Tryd.prog 51 #[.agg #[.int .i64 t.temp, .int .i64 t.dep], v] w (CmB ⟨200, t.dep⟩ w) := by
  obtain ⟨N, hN⟩ : ∃ N, w.heap.size = N := ⟨_, rfl⟩
  have HN := Lib.hid hN
  have HB := Lib.hid (show Cm2 w ((w.alloc (cmO t)).alloc (cmO ⟨0, 0⟩)) N t ⟨0, 0⟩ by rw [← hN]; exact cm2 w t ⟨0, 0⟩)
  obtain ⟨W1, hW1⟩ : ∃ W1, (w.alloc (cmO t)).alloc (cmO ⟨0, 0⟩) = W1 := ⟨_, rfl⟩
  rw [hW1] at HB
  have HRD := Lib.hid (hrd.next (w' := W1) (by rw [hN]; exact HB.out.bel))
  have HQ1 := Lib.hid q1
  have HQ3 := Lib.hid q3
  have HW1 := Lib.hid (show ((w.alloc (.cells #[.int .i64 t.temp, .int .i64 t.dep] 42)).alloc (.cells #[.int .i64 0, .int .i64 0] 42)) = W1 from hW1)
  clear hN hrd q1 q3 hW1
  have fl0 : ∀ W, (Instr.field 42 (.agg #[.int .i64 200, .int .i64 100]) 0).run Tryd.prog W = .ok (.int .i64 200) W := fun _ => by kernel_rfl
  have fl1 : ∀ W, (Instr.field 42 (.agg #[.int .i64 200, .int .i64 100]) 1).run Tryd.prog W = .ok (.int .i64 100) W := fun _ => by kernel_rfl
  go_enter Tryd.func51, Tryd.ntmps51
  go_wp2_with fail
  rw [HW1.out, HN.out]
  refine (contains_any fl v 1 _ HRD.out).mono ?_
  rintro e w2 ⟨he, hw⟩
  rw [HQ1.out] at he
  subst he
  rw [hw]
  clear hw
  go_wp2_with fail
  refine (contains_any fl v 3 _ HRD.out).mono ?_
  rintro e w3 ⟨he, hw⟩
  rw [HQ3.out] at he
  subst he
  rw [hw]
  clear hw
  go_wp2_with fail
  refine (outside_any W1).mono ?_
  rintro e w6 ⟨he, hb⟩
  have he : e = .returned (.agg #[.int .i64 200, .int .i64 100]) := he
  subst he
  have HX1 := Lib.hid (HB.out.below hb)
  have HS1 := Lib.hid (HX1.out.set 0 (.int .i64 200) ⟨200, t.dep⟩ rfl)
  obtain ⟨x0, x1⟩ := cm_cells HX1.out.b1
  obtain ⟨f0, f1⟩ := cm_frz HX1.out.b1
  (try simp only at x0 x1)
  clear hb
  go_upto_region 9 with fail
  obtain ⟨V1, hV1⟩ : ∃ V, w6.setCell ⟨N, 0, none⟩ (.int .i64 200) = V := ⟨_, rfl⟩
  rw [hV1] at HS1 ⊢
  clear hV1 x0 x1 f0 f1
  obtain ⟨x0, x1⟩ := cm_cells HS1.out.b1
  obtain ⟨y0, y1⟩ := cm_cells HS1.out.b2
  obtain ⟨g0, g1⟩ := cm_frz HS1.out.b2
  (try simp only at x0 x1 y0 y1)
  have HE := Lib.hid (HS1.out.put (x := ⟨200, t.dep⟩))
  go_wp2_with fail
  exact bodyPost_ret (results_cell1 Tryd.results51 _ _ (N + 1) 0 _ rfl (rangeAt_block HE.out.b2) Tryd.underlying42 rfl cm_info) rfl ⟨rfl, by rw [HN.out]; exact HE.out.bel⟩

set_option maxRecDepth 100000 in
set_option maxHeartbeats 4000000 in
theorem toward2_ft (t : Cm) (fl : List Int) (v : Value) (w : World) (hrd : RdI w w.heap.size v fl) (q1 : fl.contains 1 = false) (q3 : fl.contains 3 = true) : Calls Tryd.prog 51 #[.agg #[.int .i64 t.temp, .int .i64 t.dep], v] w (CmB ⟨t.temp, 100⟩ w) := by
  obtain ⟨N, hN⟩ : ∃ N, w.heap.size = N := ⟨_, rfl⟩
  have HN := Lib.hid hN
  have HB := Lib.hid (show Cm2 w ((w.alloc (cmO t)).alloc (cmO ⟨0, 0⟩)) N t ⟨0, 0⟩ by rw [← hN]; exact cm2 w t ⟨0, 0⟩)
  obtain ⟨W1, hW1⟩ : ∃ W1, (w.alloc (cmO t)).alloc (cmO ⟨0, 0⟩) = W1 := ⟨_, rfl⟩
  rw [hW1] at HB
  have HRD := Lib.hid (hrd.next (w' := W1) (by rw [hN]; exact HB.out.bel))
  have HQ1 := Lib.hid q1
  have HQ3 := Lib.hid q3
  have HW1 := Lib.hid (show ((w.alloc (.cells #[.int .i64 t.temp, .int .i64 t.dep] 42)).alloc (.cells #[.int .i64 0, .int .i64 0] 42)) = W1 from hW1)
  clear hN hrd q1 q3 hW1
  have fl0 : ∀ W, (Instr.field 42 (.agg #[.int .i64 200, .int .i64 100]) 0).run Tryd.prog W = .ok (.int .i64 200) W := fun _ => by kernel_rfl
  have fl1 : ∀ W, (Instr.field 42 (.agg #[.int .i64 200, .int .i64 100]) 1).run Tryd.prog W = .ok (.int .i64 100) W := fun _ => by kernel_rfl
  go_enter Tryd.func51, Tryd.ntmps51
  go_wp2_with fail
  rw [HW1.out, HN.out]
  refine (contains_any fl v 1 _ HRD.out).mono ?_
  rintro e w2 ⟨he, hw⟩
  rw [HQ1.out] at he
  subst he
  rw [hw]
  clear hw
  go_wp2_with fail
  refine (contains_any fl v 3 _ HRD.out).mono ?_
  rintro e w3 ⟨he, hw⟩
  rw [HQ3.out] at he
  subst he
  rw [hw]
  clear hw
  go_wp2_with fail
  refine (outside_any W1).mono ?_
  rintro e w6 ⟨he, hb⟩
  have he : e = .returned (.agg #[.int .i64 200, .int .i64 100]) := he
  subst he
  have HX1 := Lib.hid (HB.out.below hb)
  have HS1 := Lib.hid (HX1.out.set 1 (.int .i64 100) ⟨t.temp, 100⟩ rfl)
  obtain ⟨x0, x1⟩ := cm_cells HX1.out.b1
  obtain ⟨f0, f1⟩ := cm_frz HX1.out.b1
  (try simp only at x0 x1)
  clear hb
  go_upto_region 9 with fail
  obtain ⟨V1, hV1⟩ : ∃ V, w6.setCell ⟨N, 1, none⟩ (.int .i64 100) = V := ⟨_, rfl⟩
  rw [hV1] at HS1 ⊢
  clear hV1 x0 x1 f0 f1
  obtain ⟨x0, x1⟩ := cm_cells HS1.out.b1
  obtain ⟨y0, y1⟩ := cm_cells HS1.out.b2
  obtain ⟨g0, g1⟩ := cm_frz HS1.out.b2
  (try simp only at x0 x1 y0 y1)
  have HE := Lib.hid (HS1.out.put (x := ⟨t.temp, 100⟩))
  go_wp2_with fail
  exact bodyPost_ret (results_cell1 Tryd.results51 _ _ (N + 1) 0 _ rfl (rangeAt_block HE.out.b2) Tryd.underlying42 rfl cm_info) rfl ⟨rfl, by rw [HN.out]; exact HE.out.bel⟩

set_option maxRecDepth 100000 in
set_option maxHeartbeats 4000000 in
theorem toward2_ff (t : Cm) (fl : List Int) (v : Value) (w : World) (hrd : RdI w w.heap.size v fl) (q1 : fl.contains 1 = false) (q3 : fl.contains 3 = false) : Calls Tryd.prog 51 #[.agg #[.int .i64 t.temp, .int .i64 t.dep], v] w (CmB ⟨t.temp, t.dep⟩ w) := by
  obtain ⟨N, hN⟩ : ∃ N, w.heap.size = N := ⟨_, rfl⟩
  have HN := Lib.hid hN
  have HB := Lib.hid (show Cm2 w ((w.alloc (cmO t)).alloc (cmO ⟨0, 0⟩)) N t ⟨0, 0⟩ by rw [← hN]; exact cm2 w t ⟨0, 0⟩)
  obtain ⟨W1, hW1⟩ : ∃ W1, (w.alloc (cmO t)).alloc (cmO ⟨0, 0⟩) = W1 := ⟨_, rfl⟩
  rw [hW1] at HB
  have HRD := Lib.hid (hrd.next (w' := W1) (by rw [hN]; exact HB.out.bel))
  have HQ1 := Lib.hid q1
  have HQ3 := Lib.hid q3
  have HW1 := Lib.hid (show ((w.alloc (.cells #[.int .i64 t.temp, .int .i64 t.dep] 42)).alloc (.cells #[.int .i64 0, .int .i64 0] 42)) = W1 from hW1)
  clear hN hrd q1 q3 hW1
  have fl0 : ∀ W, (Instr.field 42 (.agg #[.int .i64 200, .int .i64 100]) 0).run Tryd.prog W = .ok (.int .i64 200) W := fun _ => by kernel_rfl
  have fl1 : ∀ W, (Instr.field 42 (.agg #[.int .i64 200, .int .i64 100]) 1).run Tryd.prog W = .ok (.int .i64 100) W := fun _ => by kernel_rfl
  go_enter Tryd.func51, Tryd.ntmps51
  go_wp2_with fail
  rw [HW1.out, HN.out]
  refine (contains_any fl v 1 _ HRD.out).mono ?_
  rintro e w2 ⟨he, hw⟩
  rw [HQ1.out] at he
  subst he
  rw [hw]
  clear hw
  go_wp2_with fail
  refine (contains_any fl v 3 _ HRD.out).mono ?_
  rintro e w3 ⟨he, hw⟩
  rw [HQ3.out] at he
  subst he
  rw [hw]
  clear hw
  go_upto_region 9 with fail
  obtain ⟨x0, x1⟩ := cm_cells HB.out.b1
  obtain ⟨y0, y1⟩ := cm_cells HB.out.b2
  obtain ⟨g0, g1⟩ := cm_frz HB.out.b2
  (try simp only at x0 x1 y0 y1)
  have HE := Lib.hid (HB.out.put (x := ⟨t.temp, t.dep⟩))
  go_wp2_with fail
  exact bodyPost_ret (results_cell1 Tryd.results51 _ _ (N + 1) 0 _ rfl (rangeAt_block HE.out.b2) Tryd.underlying42 rfl cm_info) rfl ⟨rfl, by rw [HN.out]; exact HE.out.bel⟩

theorem toward2_any (t : Cm) (fl : List Int) (v : Value) (w : World) (hrd : RdI w w.heap.size v fl) : Calls Tryd.prog 51 #[.agg #[.int .i64 t.temp, .int .i64 t.dep], v] w (CmB (goalP t fl) w) := by
  unfold goalP
  cases q1 : fl.contains 1 with
  | true =>
    rw [if_pos rfl]
    cases q3 : fl.contains 3 with
    | true => rw [if_pos rfl]; exact toward2_tt t fl v w hrd q1 q3
    | false => rw [if_neg (by decide)]; exact toward2_tf t fl v w hrd q1 q3
  | false =>
    rw [if_neg (by decide)]
    cases q3 : fl.contains 3 with
    | true => rw [if_pos rfl]; exact toward2_ft t fl v w hrd q1 q3
    | false => rw [if_neg (by decide)]; exact toward2_ff t fl v w hrd q1 q3

theorem Box3.set1 {w W : World} {N : Nat} {a : Cm} {o2 o3 : Obj} (h : Box3 w W N (cmO a) o2 o3) {x : Cm} : Box3 w ((W.setCell ⟨N, 0, none⟩ (.int .i64 x.temp)).setCell ⟨N, 1, none⟩ (.int .i64 x.dep)) N (cmO x) o2 o3 := by
  refine ⟨setc_heap (setc_heap h.b1 _ 0) _ 1, (Below.heap_setCell _ _ _ _ (show N + 1 ≠ N by omega)).trans ((Below.heap_setCell _ _ _ _ (show N + 1 ≠ N by omega)).trans h.b2), (Below.heap_setCell _ _ _ _ (show N + 1 + 1 ≠ N by omega)).trans ((Below.heap_setCell _ _ _ _ (show N + 1 + 1 ≠ N by omega)).trans h.b3), ?_⟩
  exact Below.setCell (Below.setCell h.bel (p := ⟨N, 0, none⟩) (Nat.le_refl N) _) (p := ⟨N, 1, none⟩) (Nat.le_refl N) _

set_option maxRecDepth 100000 in
set_option maxHeartbeats 4000000 in
theorem next_any (c t : Cm) (ramp : Int) (fl : List Int) (v : Value) (w : World) (hrd : RdI w w.heap.size v fl) : Calls Tryd.prog 39 #[.agg #[.int .i64 c.temp, .int .i64 c.dep], .agg #[.int .i64 t.temp, .int .i64 t.dep], .int .i64 ramp, v] w (CmB (nextCm c t ramp fl) w) := by
  obtain ⟨N, hN⟩ : ∃ N, w.heap.size = N := ⟨_, rfl⟩
  have HN := Lib.hid hN
  have HB := Lib.hid (show Box3 w (((w.alloc (cmO c)).alloc (cmO t)).alloc (cmO ⟨0, 0⟩)) N (cmO c) (cmO t) (cmO ⟨0, 0⟩) by rw [← hN]; exact box3 w _ _ _)
  obtain ⟨W1, hW1⟩ : ∃ W1, ((w.alloc (cmO c)).alloc (cmO t)).alloc (cmO ⟨0, 0⟩) = W1 := ⟨_, rfl⟩
  rw [hW1] at HB
  have HRD := Lib.hid hrd
  have HW1 := Lib.hid (show (((w.alloc (.cells #[.int .i64 c.temp, .int .i64 c.dep] 42)).alloc (.cells #[.int .i64 t.temp, .int .i64 t.dep] 42)).alloc (.cells #[.int .i64 0, .int .i64 0] 42)) = W1 from hW1)
  clear hN hrd hW1
  go_enter Tryd.func39, Tryd.ntmps39
  go_wp2_with fail
  rw [HW1.out, HN.out]
  refine (airClamp_any c _).mono ?_
  rintro e w2 ⟨he, hb⟩
  have he : e = .returned (.agg #[.int .i64 (clampCm c).temp, .int .i64 (clampCm c).dep]) := he
  subst he
  have HX1 := Lib.hid (HB.out.below hb)
  obtain ⟨C, hC⟩ : ∃ C, clampCm c = C := ⟨_, rfl⟩
  have HS1 := Lib.hid (HX1.out.set1 (x := C))
  rw [hC]
  have HCC := Lib.hid hC
  obtain ⟨x0, x1⟩ := cm_cells HX1.out.b1
  obtain ⟨f0, f1⟩ := cm_frz HX1.out.b1
  clear hb hC
  go_upto_region 2 with fail
  obtain ⟨V1, hV1⟩ : ∃ V, (w2.setCell ⟨N, 0, none⟩ (.int .i64 C.temp)).setCell ⟨N, 1, none⟩ (.int .i64 C.dep) = V := ⟨_, rfl⟩
  rw [hV1] at HS1 ⊢
  clear hV1 x0 x1 f0 f1
  obtain ⟨x0, x1⟩ := cm_cells HS1.out.b2
  go_wp2_with fail
  refine (airClamp_any t _).mono ?_
  rintro e w3 ⟨he, hb⟩
  have he : e = .returned (.agg #[.int .i64 (clampCm t).temp, .int .i64 (clampCm t).dep]) := he
  subst he
  have HX2 := Lib.hid (HS1.out.below hb)
  clear hb x0 x1
  go_wp2_with fail
  refine (toward2_any (clampCm t) fl v _ (HRD.out.next (by rw [HN.out]; exact HX2.out.bel))).mono ?_
  rintro e w4 ⟨he, hb⟩
  obtain ⟨G, hG⟩ : ∃ G, goalP (clampCm t) fl = G := ⟨_, rfl⟩
  rw [hG] at he
  have he : e = .returned (.agg #[.int .i64 G.temp, .int .i64 G.dep]) := he
  subst he
  have HGG := Lib.hid hG
  have HX3 := Lib.hid (HX2.out.below hb)
  clear hb hG
  go_upto_region 3 with fail
  obtain ⟨W5, hW5⟩ : ∃ W5, w4.alloc (.cells #[.int .i64 G.temp, .int .i64 G.dep] 42) = W5 := ⟨_, rfl⟩
  have HX5 := Lib.hid (HX3.out.below (W5 := W5) (by rw [← hW5]; exact bel_alloc (Below.refl _ _)))
  obtain ⟨M, hM⟩ : ∃ M, w4.heap.size = M := ⟨_, rfl⟩
  have HM5 := Lib.hid (show W5.heap[M]? = some (cmO G) by rw [← hW5, ← hM]; exact heap_alloc_last w4 (cmO G))
  rw [hW5, hM]
  clear hW5 hM
  go_wp2_with fail
  refine (clamp_any ramp 0 1200 _).mono ?_
  rintro e w6 ⟨he, hw⟩
  subst he
  rw [hw]
  clear hw
  have hrp := clampP_in ramp 0 1200 (by decide)
  obtain ⟨R, hR⟩ : ∃ R, clampP ramp 0 1200 = R := ⟨_, rfl⟩
  rw [hR] at hrp
  rw [hR]
  have HRR := Lib.hid hR
  clear hR
  go_upto_region 4 with fail
  have hC := HCC.out
  have hc0 := clampP_in c.temp 0 1200 (by decide)
  have hc1 := clampP_in c.dep 0 400 (by decide)
  have hC0 : 0 ≤ C.temp ∧ C.temp ≤ 1200 := by rw [← hC]; exact hc0
  have hC1 : 0 ≤ C.dep ∧ C.dep ≤ 400 := by rw [← hC]; exact hc1
  have u1 : IntKind.i64.wrap (C.temp - R) = C.temp - R := IntWalk.i64_in _ (by omega)
  have u2 : IntKind.i64.wrap (C.temp + R) = C.temp + R := IntWalk.i64_in _ (by omega)
  have u3 : IntKind.i64.wrap (C.dep - R) = C.dep - R := IntWalk.i64_in _ (by omega)
  have u4 : IntKind.i64.wrap (C.dep + R) = C.dep + R := IntWalk.i64_in _ (by omega)
  obtain ⟨P, hP⟩ : ∃ P, clampP G.temp (C.temp - R) (C.temp + R) = P := ⟨_, rfl⟩
  obtain ⟨Q, hQ⟩ : ∃ Q, clampP G.dep (C.dep - R) (C.dep + R) = Q := ⟨_, rfl⟩
  have HNX := Lib.hid (show nextCm c t ramp fl = ⟨P, Q⟩ by rw [nextCm, HGG.out, HCC.out, HRR.out, hP, hQ])
  have HP : Hid (∀ W, Calls Tryd.prog 52 #[.int .i64 G.temp, .int .i64 (C.temp - R), .int .i64 (C.temp + R)] W fun e w' => e = .returned (.int .i64 P) ∧ Below W.heap.size W w') := Lib.hid (fun W => by rw [← hP]; exact HCLAMP _ _ _ W)
  have HQ : Hid (∀ W, Calls Tryd.prog 52 #[.int .i64 G.dep, .int .i64 (C.dep - R), .int .i64 (C.dep + R)] W fun e w' => e = .returned (.int .i64 Q) ∧ Below W.heap.size W w') := Lib.hid (fun W => by rw [← hQ]; exact HCLAMP _ _ _ W)
  have y0 := cell_regrown (cm_cells HX5.out.b1).1
  have y1 := cell_regrown (cm_cells HX5.out.b1).2
  have y2 := cell_regrown (cm_cells HM5.out).1
  have y3 := cell_regrown (cm_cells HM5.out).2
  clear hP hQ hC hc0 hc1 hC0 hC1 hrp
  refine wp_region_below_tail 23 (by kernel_rfl) (by kernel_rfl) ?_
  simp only [List.take_succ_cons, List.take_zero, List.drop_succ_cons, List.drop_zero]
  repeat (first
    | (open Go.BigFrame in go_big_quiet_step ((first | (with_reducible exact Calls.regrown_of (HP.out _)) | (with_reducible exact Calls.regrown_of (HQ.out _)))))
    | (quiet_step ((first | (with_reducible exact Calls.regrown_of (HP.out _)) | (with_reducible exact Calls.regrown_of (HQ.out _))))))
  refine wpQuiet_nil ?_
  intro w7 hb7
  have HX7 := Lib.hid (HX5.out.below hb7)
  obtain ⟨x0, x1⟩ := cm_cells HX7.out.b3
  obtain ⟨f0, f1⟩ := cm_frz HX7.out.b3
  have HE := Lib.hid (setc_heap (setc_heap HX7.out.b3 (.int .i64 P) 0) (.int .i64 Q) 1)
  have HF := Lib.hid (Below.setCell (Below.setCell HX7.out.bel (p := ⟨N + 1 + 1, 0, none⟩) (show N ≤ N + 1 + 1 by omega) (.int .i64 P)) (p := ⟨N + 1 + 1, 1, none⟩) (show N ≤ N + 1 + 1 by omega) (.int .i64 Q))
  clear hb7 y0 y1 y2 y3
  go_wp2_with fail
  exact bodyPost_ret (results_cell1 Tryd.results39 _ _ (N + 1 + 1) 0 _ rfl (rangeAt_block HE.out) Tryd.underlying42 rfl cm_info) rfl ⟨by rw [HNX.out]; rfl, by rw [HN.out]; exact HF.out⟩
end Go.Proofs.YthineckpociomaaDoor
