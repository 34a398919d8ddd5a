/-
  The contracts of moist.computable, Tick.
-/
import Derived.Test.YthineckpociomaaDoorKiD
import Derived.Test.YthineckpociomaaDoorWoodD
import Derived.Test.YthineckpociomaaDoorKiT
namespace Go.Proofs.YthineckpociomaaDoor
open Go.RowKit Saw

/-- Three boxes laid one behind the other. -/
structure Box3 (w W : World) (N : Nat) (o1 o2 o3 : Obj) : Prop where
  b1 : W.heap[N]? = some o1
  b2 : W.heap[N + 1]? = some o2
  b3 : W.heap[N + 1 + 1]? = some o3
  bel : Below N w W
theorem box3 (w : World) (o1 o2 o3 : Obj) : Box3 w (((w.alloc o1).alloc o2).alloc o3) w.heap.size o1 o2 o3 := by
  have a1 := heap_alloc_last w o1
  have a2 := heap_alloc_last (w.alloc o1) o2
  have a3 := heap_alloc_last ((w.alloc o1).alloc o2) o3
  simp only [World.size_alloc] at a2 a3
  exact ⟨hpA (hpA a1 _) _, hpA a2 _, a3, bel_alloc (bel_alloc (bel_alloc (Below.refl _ _)))⟩
section
variable {w W W5 : World} {N : Nat} {o1 o2 o3 : Obj}
theorem Box3.sz (h : Box3 w W N o1 o2 o3) : N + 1 + 1 < W.heap.size := (Array.getElem?_eq_some_iff.1 h.b3).1
theorem Box3.below (h : Box3 w W N o1 o2 o3) (hb : Below W.heap.size W W5) : Box3 w W5 N o1 o2 o3 := by
  have hz := h.sz
  exact ⟨(hb.block _ (by omega)).trans h.b1, (hb.block _ (by omega)).trans h.b2, (hb.block _ hz).trans h.b3, h.bel.trans (hb.mono (by omega))⟩
end
def clO (c : Cl) : Obj := .cells #[.int .i64 c.surf, .int .i64 c.core, .int .i64 c.stress] 38
def spO (s : Sp) : Obj := .cells (spCells s).toArray 24
def cmO (a : Cm) : Obj := .cells #[.int .i64 a.temp, .int .i64 a.dep] 42
theorem sp_cells {W : World} {N : Nat} {s : Sp} (h : W.heap[N]? = some (spO s)) : W.cell? ⟨N, 2, none⟩ = some (.int .i64 s.fast) ∧ W.cell? ⟨N, 3, none⟩ = some (.int .i64 s.slow) ∧ W.cell? ⟨N, 4, none⟩ = some (.int .i64 s.safe) := ⟨cell_of_box h rfl, cell_of_box h rfl, cell_of_box h rfl⟩
theorem cm_cells {W : World} {N : Nat} {a : Cm} (h : W.heap[N]? = some (cmO a)) : W.cell? ⟨N, 0, none⟩ = some (.int .i64 a.temp) ∧ W.cell? ⟨N, 1, none⟩ = some (.int .i64 a.dep) := ⟨cell_of_box h rfl, cell_of_box h rfl⟩
theorem cl_cells {W : World} {N : Nat} {c : Cl} (h : W.heap[N]? = some (clO c)) : W.cell? ⟨N, 0, none⟩ = some (.int .i64 c.surf) ∧ W.cell? ⟨N, 1, none⟩ = some (.int .i64 c.core) ∧ W.cell? ⟨N, 2, none⟩ = some (.int .i64 c.stress) := ⟨cell_of_box h rfl, cell_of_box h rfl, cell_of_box h rfl⟩

set_option maxRecDepth 100000 in
set_option maxHeartbeats 4000000 in
theorem computable_any (c : Cl) (s : Sp) (thick : Int) (a : Cm) (w : World) (hc : ClOk c) (hs : SpOk s) (ht : 1 ≤ thick ∧ thick ≤ 600) (ha : airOk a) :
    Calls Tryd.prog 57 #[.agg #[.int .i64 c.surf, .int .i64 c.core, .int .i64 c.stress], .agg (spCells s).toArray, .int .i64 thick, .agg #[.int .i64 a.temp, .int .i64 a.dep]] w (BoolB true w) := by
  have c2 := spC2 s
  have c3 := spC3 s
  have c4 := spC4 s
  obtain ⟨s1, s2, s3, s4, s5, s6⟩ := hs
  have HA := Lib.hid ha
  have HCK := Lib.hid (checkCl_ok.2 hc)
  clear hc ha
  go_enter Tryd.func57, Tryd.ntmps57
  go_wp2_with fail
  obtain ⟨N, hN⟩ : ∃ N, w.heap.size = N := ⟨_, rfl⟩
  obtain ⟨W0, hW0⟩ : ∃ W0, ((w.alloc (clO c)).alloc (spO s)).alloc (cmO a) = W0 := ⟨_, rfl⟩
  have HB0 := Lib.hid (show Box3 w W0 N (clO c) (spO s) (cmO a) by rw [← hW0, ← hN]; exact box3 w _ _ _)
  have HN := Lib.hid hN
  refine (moistCheck_any c _).mono ?_
  rintro e w1 ⟨he, hb1⟩
  subst he
  rw [HCK.out]
  have HB1 := Lib.hid (HB0.out.below (W5 := w1) (by rw [← hW0]; exact hb1))
  rw [hN]
  obtain ⟨p2, p3, p4⟩ := sp_cells HB1.out.b2
  obtain ⟨q0, q1⟩ := cm_cells HB1.out.b3
  clear hb1 hW0 hN
  go_wp2_with fail
  refine (airCheck_any a _ HA.out).mono ?_
  rintro e w2 ⟨he, hb2⟩
  subst he
  have HB2 := Lib.hid (HB1.out.below hb2)
  obtain ⟨p2, p3, p4⟩ := sp_cells HB2.out.b2
  clear hb2
  go_wp2_with fail
  go_ret
  exact ⟨rfl, by rw [HN.out]; exact HB2.out.bel⟩

/-- moist.Tick's memory: its cell, its species, its climate, its result. -/
structure TkSt (w W : World) (N : Nat) (c : Cl) (s : Sp) (a : Cm) (r : Cl) : Prop where
  b1 : W.heap[N]? = some (clO c)
  b2 : W.heap[N + 1]? = some (spO s)
  b3 : W.heap[N + 1 + 1]? = some (cmO a)
  b4 : W.heap[N + 1 + 1 + 1]? = some (clO r)
  bel : Below N w W
theorem tkst (w : World) (c : Cl) (s : Sp) (a : Cm) : TkSt w ((((w.alloc (clO c)).alloc (spO s)).alloc (cmO a)).alloc (clO ⟨0, 0, 0⟩)) w.heap.size c s a ⟨0, 0, 0⟩ := by
  have h := box3 w (clO c) (spO s) (cmO a)
  have a4 := heap_alloc_last (((w.alloc (clO c)).alloc (spO s)).alloc (cmO a)) (clO ⟨0, 0, 0⟩)
  simp only [World.size_alloc] at a4
  exact ⟨hpA h.b1 _, hpA h.b2 _, hpA h.b3 _, a4, bel_alloc h.bel⟩
section
variable {w W W5 : World} {N : Nat} {c : Cl} {s : Sp} {a : Cm} {r : Cl}
theorem TkSt.sz (h : TkSt w W N c s a r) : N + 1 + 1 + 1 < W.heap.size := (Array.getElem?_eq_some_iff.1 h.b4).1
theorem TkSt.below (h : TkSt w W N c s a r) (hb : Below W.heap.size W W5) : TkSt w W5 N c s a r := by
  have hz := h.sz
  exact ⟨(hb.block _ (by omega)).trans h.b1, (hb.block _ (by omega)).trans h.b2, (hb.block _ (by omega)).trans h.b3, (hb.block _ hz).trans h.b4, h.bel.trans (hb.mono (by omega))⟩
theorem TkSt.drewN (h : TkSt w W N c s a r) (n : Nat) : TkSt w (W.drewN n) N c s a r := ⟨h.b1, h.b2, h.b3, h.b4, below_drewNn h.bel n⟩
theorem TkSt.set (h : TkSt w W N c s a r) (j : Nat) (v : Value) (c' : Cl) (hc : (#[.int .i64 c.surf, .int .i64 c.core, .int .i64 c.stress] : Array Value).setIfInBounds j v = #[.int .i64 c'.surf, .int .i64 c'.core, .int .i64 c'.stress]) : TkSt w (W.setCell ⟨N, j, none⟩ v) N c' s a r := by
  refine ⟨?_, (Below.heap_setCell _ _ _ _ (show N + 1 ≠ N by omega)).trans h.b2, (Below.heap_setCell _ _ _ _ (show N + 1 + 1 ≠ N by omega)).trans h.b3, (Below.heap_setCell _ _ _ _ (show N + 1 + 1 + 1 ≠ N by omega)).trans h.b4, Below.setCell h.bel (show N ≤ Addr.block ⟨N, j, none⟩ from Nat.le_refl _) _⟩
  have g := setc_heap h.b1 v j
  rw [hc] at g
  exact g
theorem TkSt.put (h : TkSt w W N c s a r) {x : Cl} : (((W.setCell ⟨N + 1 + 1 + 1, 0, none⟩ (.int .i64 x.surf)).setCell ⟨N + 1 + 1 + 1, 1, none⟩ (.int .i64 x.core)).setCell ⟨N + 1 + 1 + 1, 2, none⟩ (.int .i64 x.stress)).heap[N + 1 + 1 + 1]? = some (clO x) ∧ Below N w (((W.setCell ⟨N + 1 + 1 + 1, 0, none⟩ (.int .i64 x.surf)).setCell ⟨N + 1 + 1 + 1, 1, none⟩ (.int .i64 x.core)).setCell ⟨N + 1 + 1 + 1, 2, none⟩ (.int .i64 x.stress)) := by
  refine ⟨setc_heap (setc_heap (setc_heap h.b4 _ 0) _ 1) _ 2, ?_⟩
  have hN : N ≤ N + 1 + 1 + 1 := by omega
  exact Below.setCell (Below.setCell (Below.setCell h.bel (p := ⟨N + 1 + 1 + 1, 0, none⟩) hN _) (p := ⟨N + 1 + 1 + 1, 1, none⟩) hN _) (p := ⟨N + 1 + 1 + 1, 2, none⟩) hN _
theorem cl_frz (h : W.heap[N]? = some (clO c)) : W.frozen? ⟨N, 0, none⟩ = false ∧ W.frozen? ⟨N, 1, none⟩ = false ∧ W.frozen? ⟨N, 2, none⟩ = false := ⟨frz h 0, frz h 1, frz h 2⟩
end
theorem mul_pos {x y X Y : Int} (h0 : 0 ≤ x) (h1 : x ≤ X) (h2 : 0 ≤ y) (h3 : y ≤ Y) : 0 ≤ x * y ∧ x * y ≤ X * Y := ⟨Int.mul_nonneg h0 h2, Int.mul_le_mul h1 h3 h2 (by omega)⟩
theorem cl_info : (Tryd.prog.info? 38).map (·.size) = some 3 := by kernel_rfl

set_option maxRecDepth 100000 in
set_option maxHeartbeats 8000000 in
theorem tick_true (c : Cl) (s : Sp) (thick : Int) (a : Cm) (w : World) (hc : ClOk c) (hs : SpOk s) (ht : 1 ≤ thick ∧ thick ≤ 600) (ha : airOk a) :
    Calls Tryd.prog 53 #[.agg #[.int .i64 c.surf, .int .i64 c.core, .int .i64 c.stress], .agg (spCells s).toArray, .int .i64 thick, .agg #[.int .i64 a.temp, .int .i64 a.dep], .bool true] w (fun e w' => e = .returned (.agg #[.int .i64 (tickP c s thick a true).surf, .int .i64 (tickP c s thick a true).core, .int .i64 (tickP c s thick a true).stress]) ∧ Below w.heap.size w w') := by
  have c2 := spC2 s
  have c3 := spC3 s
  have c4 := spC4 s
  have HC := Lib.hid hc
  have HS := Lib.hid hs
  have HA := Lib.hid ha
  have hsf := surfP_in hc s a true
  have hcf := coreP_in hc s thick a true
  obtain ⟨k1, k2, k3, k4, k5, k6⟩ := hc
  obtain ⟨s1, s2, s3, s4, s5, s6⟩ := hs
  obtain ⟨a1, a2, a3, a4⟩ := ha
  obtain ⟨m1, m2⟩ := mul_pos (x := s.fast) (y := a.temp) (X := 10000) (Y := 1200) (by omega) (by omega) a1 a2
  obtain ⟨m3, m4⟩ := mul_pos (x := s.slow) (y := a.temp) (X := 10000) (Y := 1200) (by omega) (by omega) a1 a2
  have hem := emcP_in a.temp a.dep
  obtain ⟨E, hE⟩ : ∃ E, emcP a.temp a.dep = E := ⟨_, rfl⟩
  obtain ⟨P1, hP1⟩ : ∃ P1, s.fast * a.temp = P1 := ⟨_, rfl⟩
  obtain ⟨P2, hP2⟩ : ∃ P2, s.slow * a.temp = P2 := ⟨_, rfl⟩
  obtain ⟨Q1, hQ1⟩ : ∃ Q1, P1 / 200 = Q1 := ⟨_, rfl⟩
  obtain ⟨Q2, hQ2⟩ : ∃ Q2, P2 * 25 / (200 * thick) = Q2 := ⟨_, rfl⟩
  obtain ⟨K1, hK1⟩ : ∃ K1, clampP Q1 1 10000 = K1 := ⟨_, rfl⟩
  obtain ⟨K2, hK2⟩ : ∃ K2, clampP Q2 1 10000 = K2 := ⟨_, rfl⟩
  have l1 := clampP_in Q1 1 10000 (by decide)
  have l2 := clampP_in Q2 1 10000 (by decide)
  rw [hK1] at l1
  rw [hK2] at l2
  rw [hE] at hem
  rw [hP1] at m1 m2
  rw [hP2] at m3 m4
  obtain ⟨U, hU⟩ : ∃ U, surfP c s a true = U := ⟨_, rfl⟩
  obtain ⟨V, hV⟩ : ∃ V, coreP c s thick a true = V := ⟨_, rfl⟩
  rw [hU] at hsf
  rw [hV] at hcf
  have HU := Lib.hid (show towardP c.surf E K1 = U by rw [← hU, surfP, if_pos rfl, hE, hP1, hQ1, hK1])
  have HV := Lib.hid (show towardP c.core U K2 = V by rw [← hV, coreP, hU, hP2, hQ2, hK2])
  have HT := Lib.hid (show tickP c s thick a true = ⟨U, V, min (c.stress + max 0 (V - U - s.safe)) 1099511627776⟩ by rw [tickP, hU, hV])
  have d1 : P1.tdiv 200 = Q1 := by rw [Int.tdiv_eq_ediv_of_nonneg m1]; exact hQ1
  have d2 : (P2 * 25).tdiv (200 * thick) = Q2 := by rw [Int.tdiv_eq_ediv_of_nonneg (by omega)]; exact hQ2
  have d3 : (200 * thick == 0) = false := by rw [beq_eq_false_iff_ne]; omega
  have w1 : IntKind.i64.wrap P1 = P1 := IntWalk.i64_in _ (by omega)
  have w2 : IntKind.i64.wrap P2 = P2 := IntWalk.i64_in _ (by omega)
  have w3 : IntKind.i64.wrap (P2 * 25) = P2 * 25 := IntWalk.i64_in _ (by omega)
  have w4 : IntKind.i64.wrap (200 * thick) = 200 * thick := IntWalk.i64_in _ (by omega)
  have q1 : 0 ≤ Q1 ∧ Q1 ≤ 10000000000 := by omega
  have q2 : 0 ≤ Q2 ∧ Q2 ≤ 10000000000 := by
    have h1 : 0 ≤ P2 * 25 / (200 * thick) := Int.ediv_nonneg (by omega) (by omega)
    have h2 : P2 * 25 / (200 * thick) ≤ P2 * 25 := Int.ediv_le_self _ (by omega)
    omega
  have w5 : IntKind.i64.wrap Q1 = Q1 := IntWalk.i64_in _ (by omega)
  have w6 : IntKind.i64.wrap Q2 = Q2 := IntWalk.i64_in _ (by omega)
  have HK1 := Lib.hid hK1
  have HK2 := Lib.hid hK2
  have HE := Lib.hid hE
  clear hK1 hK2 hE hQ1 hQ2 hU hV
  rw [HT.out]
  obtain ⟨N, hN⟩ : ∃ N, w.heap.size = N := ⟨_, rfl⟩
  have HN := Lib.hid hN
  obtain ⟨W0, hW0⟩ : ∃ W0, (((w.alloc (clO c)).alloc (spO s)).alloc (cmO a)).alloc (clO ⟨0, 0, 0⟩) = W0 := ⟨_, rfl⟩
  have HB0 := Lib.hid (show TkSt w W0 N c s a ⟨0, 0, 0⟩ by rw [← hW0, ← hN]; exact tkst w c s a)
  have HW0 := Lib.hid hW0
  clear hW0 hN
  go_enter Tryd.func53, Tryd.ntmps53
  go_wp2_with (first
    | ((with_reducible refine sp_load (w.heap.size + 1) 0 s ?hx ?hc ?_); (case hx => rfl); (case hc => (have h := HB0.out.b2; rw [← HW0.out, ← HN.out] at h; exact rangeAt_block h))))
  refine (computable_any c s thick a _ HC.out HS.out ht HA.out).mono ?_
  rintro e w1 ⟨he, hb1⟩
  subst he
  have HB1 := Lib.hid (HB0.out.below (W5 := w1) (by rw [← HW0.out]; exact hb1))
  rw [HN.out]
  clear hb1
  obtain ⟨x0, x1, x2⟩ := cl_cells HB1.out.b1
  obtain ⟨v0, v1, v2⟩ := sp_cells HB1.out.b2
  obtain ⟨z0, z1⟩ := cm_cells HB1.out.b3
  obtain ⟨f0, f1, f2⟩ := cl_frz HB1.out.b1
  obtain ⟨r0, r1, r2⟩ := cl_cells HB1.out.b4
  obtain ⟨g0, g1, g2⟩ := cl_frz HB1.out.b4
  go_wp2_with fail
  have HEM : Hid (∀ W, Calls Tryd.prog 59 #[.agg #[.int .i64 a.temp, .int .i64 a.dep]] W fun e w' => e = .returned (.int .i64 E) ∧ Below W.heap.size W w') := Lib.hid (fun W => (emc_any a W HA.out).mono fun e w' h => ⟨by rw [h.1, HE.out], h.2⟩)
  have HCL : Hid (∀ W, Calls Tryd.prog 52 #[.int .i64 Q1, .int .i64 1, .int .i64 10000] W fun e w' => e = .returned (.int .i64 K1) ∧ Below W.heap.size W w') := Lib.hid (fun W => (clamp_any Q1 1 10000 W).mono fun e w' h => ⟨by rw [h.1, HK1.out], by rw [h.2]; exact Below.refl _ _⟩)
  have HTW : Hid (∀ W, Calls Tryd.prog 58 #[.int .i64 c.surf, .int .i64 E, .int .i64 K1] W fun e w' => e = .returned (.int .i64 U) ∧ Below W.heap.size W w') := Lib.hid (fun W => (toward_any c.surf E K1 W ⟨by omega, by omega⟩ ⟨by omega, by omega⟩ ⟨by omega, by omega⟩).mono fun e w' h => ⟨by rw [h.1, HU.out], by obtain ⟨n, hn⟩ := h.2; rw [hn]; exact below_drewNn (Below.refl _ _) n⟩)
  have y0 := cell_regrown (cl_cells HB1.out.b1).1
  have y1 := cell_regrown (sp_cells HB1.out.b2).1
  have y2 := cell_regrown (cm_cells HB1.out.b3).1
  have y3 := cell_regrown (cm_cells HB1.out.b3).2
  clear x0 x1 x2 z0 z1 f0 f1 f2 r0 r1 r2 g0 g1 g2
  refine wp_region_below_tail 13 (by kernel_rfl) (by kernel_rfl) ?_
  simp only [List.take_succ_cons, List.take_zero, List.drop_succ_cons, List.drop_zero]
  repeat (first
    | (open Go.BigFrame in go_big_quiet_step ((first | (with_reducible exact Calls.regrown_of (HEM.out _)) | (with_reducible exact Calls.regrown_of (HCL.out _)) | (with_reducible exact Calls.regrown_of (HTW.out _)))))
    | (quiet_step ((first | (with_reducible exact Calls.regrown_of (HEM.out _)) | (with_reducible exact Calls.regrown_of (HCL.out _)) | (with_reducible exact Calls.regrown_of (HTW.out _))))))
  refine wpQuiet_nil ?_
  intro w2 hb2
  have HB2 := Lib.hid ((HB1.out.below hb2).set 0 (.int .i64 U) ⟨U, c.core, c.stress⟩ rfl)
  have x0 := (cl_cells (HB1.out.below hb2).b1).1
  have f0 := (cl_frz (HB1.out.below hb2).b1).1
  clear hb2 y0 y1 y2 y3
  go_wp2_with fail
  obtain ⟨W3, hW3⟩ : ∃ W3, w2.setCell ⟨N, 0, none⟩ (.int .i64 U) = W3 := ⟨_, rfl⟩
  rw [hW3] at HB2 ⊢
  clear hW3 x0 f0
  have HCL2 : Hid (∀ W, Calls Tryd.prog 52 #[.int .i64 Q2, .int .i64 1, .int .i64 10000] W fun e w' => e = .returned (.int .i64 K2) ∧ Below W.heap.size W w') := Lib.hid (fun W => (clamp_any Q2 1 10000 W).mono fun e w' h => ⟨by rw [h.1, HK2.out], by rw [h.2]; exact Below.refl _ _⟩)
  have HTW2 : Hid (∀ W, Calls Tryd.prog 58 #[.int .i64 c.core, .int .i64 U, .int .i64 K2] W fun e w' => e = .returned (.int .i64 V) ∧ Below W.heap.size W w') := Lib.hid (fun W => (toward_any c.core U K2 W ⟨by omega, by omega⟩ ⟨by omega, by omega⟩ ⟨by omega, by omega⟩).mono fun e w' h => ⟨by rw [h.1, HV.out], by obtain ⟨n, hn⟩ := h.2; rw [hn]; exact below_drewNn (Below.refl _ _) n⟩)
  have y0 := cell_regrown (cl_cells HB2.out.b1).1
  have y4 := cell_regrown (cl_cells HB2.out.b1).2.1
  have y1 := cell_regrown (sp_cells HB2.out.b2).2.1
  have y2 := cell_regrown (cm_cells HB2.out.b3).1
  simp only at y0 y4
  refine wp_region_below_tail 16 (by kernel_rfl) (by kernel_rfl) ?_
  simp only [List.take_succ_cons, List.take_zero, List.drop_succ_cons, List.drop_zero]
  repeat (first
    | (open Go.BigFrame in go_big_quiet_step ((first | (with_reducible exact Calls.regrown_of (HCL2.out _)) | (with_reducible exact Calls.regrown_of (HTW2.out _)))))
    | (quiet_step ((first | (with_reducible exact Calls.regrown_of (HCL2.out _)) | (with_reducible exact Calls.regrown_of (HTW2.out _))))))
  refine wpQuiet_nil ?_
  intro w4 hb4
  have HB4 := Lib.hid ((HB2.out.below hb4).set 1 (.int .i64 V) ⟨U, V, c.stress⟩ rfl)
  have x0 := (cl_cells (HB2.out.below hb4).b1).2.1
  have f0 := (cl_frz (HB2.out.below hb4).b1).2.1
  simp only at x0
  clear hb4 y0 y1 y2 y4
  go_upto_region 7 with fail
  obtain ⟨W5, hW5⟩ : ∃ W5, w4.setCell ⟨N, 1, none⟩ (.int .i64 V) = W5 := ⟨_, rfl⟩
  rw [hW5] at HB4 ⊢
  clear hW5 x0 f0
  obtain ⟨x0, x1, x2⟩ := cl_cells HB4.out.b1
  obtain ⟨f0, f1, f2⟩ := cl_frz HB4.out.b1
  obtain ⟨_, _, v2⟩ := sp_cells HB4.out.b2
  simp only at x0 x1 x2
  have HB6 := Lib.hid (HB4.out.set 2 (.int .i64 (min (c.stress + max 0 (V - U - s.safe)) 1099511627776)) ⟨U, V, min (c.stress + max 0 (V - U - s.safe)) 1099511627776⟩ rfl)
  go_upto_region 8 with fail
  obtain ⟨W7, hW7⟩ : ∃ W7, W5.setCell ⟨N, 2, none⟩ (.int .i64 (min (c.stress + max 0 (V - U - s.safe)) 1099511627776)) = W7 := ⟨_, rfl⟩
  rw [hW7] at HB6 ⊢
  clear hW7 x0 x1 x2 f0 f1 f2 v2
  obtain ⟨x0, x1, x2⟩ := cl_cells HB6.out.b1
  obtain ⟨r0, r1, r2⟩ := cl_cells HB6.out.b4
  obtain ⟨g0, g1, g2⟩ := cl_frz HB6.out.b4
  simp only at x0 x1 x2 r0 r1 r2
  obtain ⟨p1, p2⟩ := HB6.out.put (x := ⟨U, V, min (c.stress + max 0 (V - U - s.safe)) 1099511627776⟩)
  have HP1 := Lib.hid p1
  have HP2 := Lib.hid p2
  clear p1 p2
  go_wp2_with fail
  exact bodyPost_ret (results_cell1 Tryd.results53 _ _ (N + 1 + 1 + 1) 0 _ rfl (rangeAt_block HP1.out) Tryd.underlying38 rfl cl_info) rfl ⟨rfl, by rw [HN.out]; exact HP2.out⟩

set_option maxRecDepth 100000 in
set_option maxHeartbeats 8000000 in
theorem tick_false (c : Cl) (s : Sp) (thick : Int) (a : Cm) (w : World) (hc : ClOk c) (hs : SpOk s) (ht : 1 ≤ thick ∧ thick ≤ 600) (ha : airOk a) :
    Calls Tryd.prog 53 #[.agg #[.int .i64 c.surf, .int .i64 c.core, .int .i64 c.stress], .agg (spCells s).toArray, .int .i64 thick, .agg #[.int .i64 a.temp, .int .i64 a.dep], .bool false] w (fun e w' => e = .returned (.agg #[.int .i64 (tickP c s thick a false).surf, .int .i64 (tickP c s thick a false).core, .int .i64 (tickP c s thick a false).stress]) ∧ Below w.heap.size w w') := by
  have c2 := spC2 s
  have c3 := spC3 s
  have c4 := spC4 s
  have HC := Lib.hid hc
  have HS := Lib.hid hs
  have HA := Lib.hid ha
  have hsf := surfP_in hc s a false
  have hcf := coreP_in hc s thick a false
  obtain ⟨k1, k2, k3, k4, k5, k6⟩ := hc
  obtain ⟨s1, s2, s3, s4, s5, s6⟩ := hs
  obtain ⟨a1, a2, a3, a4⟩ := ha
  obtain ⟨m1, m2⟩ := mul_pos (x := s.fast) (y := a.temp) (X := 10000) (Y := 1200) (by omega) (by omega) a1 a2
  obtain ⟨m3, m4⟩ := mul_pos (x := s.slow) (y := a.temp) (X := 10000) (Y := 1200) (by omega) (by omega) a1 a2
  have hem := emcP_in a.temp a.dep
  obtain ⟨E, hE⟩ : ∃ E, emcP a.temp a.dep = E := ⟨_, rfl⟩
  obtain ⟨P1, hP1⟩ : ∃ P1, s.fast * a.temp = P1 := ⟨_, rfl⟩
  obtain ⟨P2, hP2⟩ : ∃ P2, s.slow * a.temp = P2 := ⟨_, rfl⟩
  obtain ⟨Q1, hQ1⟩ : ∃ Q1, P1 / 200 = Q1 := ⟨_, rfl⟩
  obtain ⟨Q2, hQ2⟩ : ∃ Q2, P2 * 25 / (200 * thick) = Q2 := ⟨_, rfl⟩
  obtain ⟨K1, hK1⟩ : ∃ K1, clampP Q1 1 10000 = K1 := ⟨_, rfl⟩
  obtain ⟨K2, hK2⟩ : ∃ K2, clampP Q2 1 10000 = K2 := ⟨_, rfl⟩
  have l1 := clampP_in Q1 1 10000 (by decide)
  have l2 := clampP_in Q2 1 10000 (by decide)
  rw [hK1] at l1
  rw [hK2] at l2
  rw [hE] at hem
  rw [hP1] at m1 m2
  rw [hP2] at m3 m4
  obtain ⟨U, hU⟩ : ∃ U, surfP c s a false = U := ⟨_, rfl⟩
  obtain ⟨V, hV⟩ : ∃ V, coreP c s thick a false = V := ⟨_, rfl⟩
  rw [hU] at hsf
  rw [hV] at hcf
  have HU := Lib.hid (show U = c.surf by rw [← hU]; rfl)
  have HV := Lib.hid (show towardP c.core U K2 = V by rw [← hV, coreP, hU, hP2, hQ2, hK2])
  have HT := Lib.hid (show tickP c s thick a false = ⟨U, V, min (c.stress + max 0 (V - U - s.safe)) 1099511627776⟩ by rw [tickP, hU, hV])
  have d1 : P1.tdiv 200 = Q1 := by rw [Int.tdiv_eq_ediv_of_nonneg m1]; exact hQ1
  have d2 : (P2 * 25).tdiv (200 * thick) = Q2 := by rw [Int.tdiv_eq_ediv_of_nonneg (by omega)]; exact hQ2
  have d3 : (200 * thick == 0) = false := by rw [beq_eq_false_iff_ne]; omega
  have w1 : IntKind.i64.wrap P1 = P1 := IntWalk.i64_in _ (by omega)
  have w2 : IntKind.i64.wrap P2 = P2 := IntWalk.i64_in _ (by omega)
  have w3 : IntKind.i64.wrap (P2 * 25) = P2 * 25 := IntWalk.i64_in _ (by omega)
  have w4 : IntKind.i64.wrap (200 * thick) = 200 * thick := IntWalk.i64_in _ (by omega)
  have q1 : 0 ≤ Q1 ∧ Q1 ≤ 10000000000 := by omega
  have q2 : 0 ≤ Q2 ∧ Q2 ≤ 10000000000 := by
    have h1 : 0 ≤ P2 * 25 / (200 * thick) := Int.ediv_nonneg (by omega) (by omega)
    have h2 : P2 * 25 / (200 * thick) ≤ P2 * 25 := Int.ediv_le_self _ (by omega)
    omega
  have w5 : IntKind.i64.wrap Q1 = Q1 := IntWalk.i64_in _ (by omega)
  have w6 : IntKind.i64.wrap Q2 = Q2 := IntWalk.i64_in _ (by omega)
  have HK1 := Lib.hid hK1
  have HK2 := Lib.hid hK2
  have HE := Lib.hid hE
  clear hK1 hK2 hE hQ1 hQ2 hU hV
  rw [HT.out]
  obtain ⟨N, hN⟩ : ∃ N, w.heap.size = N := ⟨_, rfl⟩
  have HN := Lib.hid hN
  obtain ⟨W0, hW0⟩ : ∃ W0, (((w.alloc (clO c)).alloc (spO s)).alloc (cmO a)).alloc (clO ⟨0, 0, 0⟩) = W0 := ⟨_, rfl⟩
  have HB0 := Lib.hid (show TkSt w W0 N c s a ⟨0, 0, 0⟩ by rw [← hW0, ← hN]; exact tkst w c s a)
  have HW0 := Lib.hid hW0
  clear hW0 hN
  go_enter Tryd.func53, Tryd.ntmps53
  go_wp2_with (first
    | ((with_reducible refine sp_load (w.heap.size + 1) 0 s ?hx ?hc ?_); (case hx => rfl); (case hc => (have h := HB0.out.b2; rw [← HW0.out, ← HN.out] at h; exact rangeAt_block h))))
  refine (computable_any c s thick a _ HC.out HS.out ht HA.out).mono ?_
  rintro e w1 ⟨he, hb1⟩
  subst he
  have HB1 := Lib.hid (HB0.out.below (W5 := w1) (by rw [← HW0.out]; exact hb1))
  rw [HN.out]
  clear hb1
  go_wp2_with fail
  have HB2 := Lib.hid (show TkSt w w1 N ⟨U, c.core, c.stress⟩ s a ⟨0, 0, 0⟩ by rw [HU.out]; exact HB1.out)
  have HCL2 : Hid (∀ W, Calls Tryd.prog 52 #[.int .i64 Q2, .int .i64 1, .int .i64 10000] W fun e w' => e = .returned (.int .i64 K2) ∧ Below W.heap.size W w') := Lib.hid (fun W => (clamp_any Q2 1 10000 W).mono fun e w' h => ⟨by rw [h.1, HK2.out], by rw [h.2]; exact Below.refl _ _⟩)
  have HTW2 : Hid (∀ W, Calls Tryd.prog 58 #[.int .i64 c.core, .int .i64 U, .int .i64 K2] W fun e w' => e = .returned (.int .i64 V) ∧ Below W.heap.size W w') := Lib.hid (fun W => (toward_any c.core U K2 W ⟨by omega, by omega⟩ ⟨by omega, by omega⟩ ⟨by omega, by omega⟩).mono fun e w' h => ⟨by rw [h.1, HV.out], by obtain ⟨n, hn⟩ := h.2; rw [hn]; exact below_drewNn (Below.refl _ _) n⟩)
  have y0 := cell_regrown (cl_cells HB2.out.b1).1
  have y4 := cell_regrown (cl_cells HB2.out.b1).2.1
  have y1 := cell_regrown (sp_cells HB2.out.b2).2.1
  have y2 := cell_regrown (cm_cells HB2.out.b3).1
  simp only at y0 y4
  refine wp_region_below_tail 16 (by kernel_rfl) (by kernel_rfl) ?_
  simp only [List.take_succ_cons, List.take_zero, List.drop_succ_cons, List.drop_zero]
  repeat (first
    | (open Go.BigFrame in go_big_quiet_step ((first | (with_reducible exact Calls.regrown_of (HCL2.out _)) | (with_reducible exact Calls.regrown_of (HTW2.out _)))))
    | (quiet_step ((first | (with_reducible exact Calls.regrown_of (HCL2.out _)) | (with_reducible exact Calls.regrown_of (HTW2.out _))))))
  refine wpQuiet_nil ?_
  intro w4 hb4
  have HB4 := Lib.hid ((HB2.out.below hb4).set 1 (.int .i64 V) ⟨U, V, c.stress⟩ rfl)
  have x0 := (cl_cells (HB2.out.below hb4).b1).2.1
  have f0 := (cl_frz (HB2.out.below hb4).b1).2.1
  simp only at x0
  clear hb4 y0 y1 y2 y4
  go_upto_region 7 with fail
  obtain ⟨W5, hW5⟩ : ∃ W5, w4.setCell ⟨N, 1, none⟩ (.int .i64 V) = W5 := ⟨_, rfl⟩
  rw [hW5] at HB4 ⊢
  clear hW5 x0 f0
  obtain ⟨x0, x1, x2⟩ := cl_cells HB4.out.b1
  obtain ⟨f0, f1, f2⟩ := cl_frz HB4.out.b1
  obtain ⟨_, _, v2⟩ := sp_cells HB4.out.b2
  simp only at x0 x1 x2
  have HB6 := Lib.hid (HB4.out.set 2 (.int .i64 (min (c.stress + max 0 (V - U - s.safe)) 1099511627776)) ⟨U, V, min (c.stress + max 0 (V - U - s.safe)) 1099511627776⟩ rfl)
  go_upto_region 8 with fail
  obtain ⟨W7, hW7⟩ : ∃ W7, W5.setCell ⟨N, 2, none⟩ (.int .i64 (min (c.stress + max 0 (V - U - s.safe)) 1099511627776)) = W7 := ⟨_, rfl⟩
  rw [hW7] at HB6 ⊢
  clear hW7 x0 x1 x2 f0 f1 f2 v2
  obtain ⟨x0, x1, x2⟩ := cl_cells HB6.out.b1
  obtain ⟨r0, r1, r2⟩ := cl_cells HB6.out.b4
  obtain ⟨g0, g1, g2⟩ := cl_frz HB6.out.b4
  simp only at x0 x1 x2 r0 r1 r2
  obtain ⟨p1, p2⟩ := HB6.out.put (x := ⟨U, V, min (c.stress + max 0 (V - U - s.safe)) 1099511627776⟩)
  have HP1 := Lib.hid p1
  have HP2 := Lib.hid p2
  clear p1 p2
  go_wp2_with fail
  exact bodyPost_ret (results_cell1 Tryd.results53 _ _ (N + 1 + 1 + 1) 0 _ rfl (rangeAt_block HP1.out) Tryd.underlying38 rfl cl_info) rfl ⟨rfl, by rw [HN.out]; exact HP2.out⟩

theorem tick_any (c : Cl) (s : Sp) (thick : Int) (a : Cm) (fan : Bool) (w : World) (hc : ClOk c) (hs : SpOk s) (ht : 1 ≤ thick ∧ thick ≤ 600) (ha : airOk a) :
    Calls Tryd.prog 53 #[.agg #[.int .i64 c.surf, .int .i64 c.core, .int .i64 c.stress], .agg (spCells s).toArray, .int .i64 thick, .agg #[.int .i64 a.temp, .int .i64 a.dep], .bool fan] w (fun e w' => e = .returned (.agg #[.int .i64 (tickP c s thick a fan).surf, .int .i64 (tickP c s thick a fan).core, .int .i64 (tickP c s thick a fan).stress]) ∧ Below w.heap.size w w') := by
  cases fan with
  | true => exact tick_true c s thick a w hc hs ht ha
  | false => exact tick_false c s thick a w hc hs ht ha
end Go.Proofs.YthineckpociomaaDoor
