/-
  The contracts of sawmillref19's SameOne and Same, where both arguments are equal.
-/
import Derived.Test.YtokgonpeolppnaaDoorPrN
namespace Go.Proofs.YtokgonpeolppnaaDoor
open Go.RowKit Saw Go.Sort

set_option maxRecDepth 100000 in
set_option maxHeartbeats 1000000 in
theorem sameOne_any (x : Pr) (A1 A2 B1 B2 : Option Addr) (c1 c2 d1 d2 : Nat) (w : World) (h1 : RdI w w.heap.size (.slice A1 x.lens.length c1) x.lens) (h2 : RdI w w.heap.size (.slice A2 x.prices.length c2) x.prices) (k1 : RdI w w.heap.size (.slice B1 x.lens.length d1) x.lens) (k2 : RdI w w.heap.size (.slice B2 x.prices.length d2) x.prices) :
    Calls Tryd.prog 45 #[.agg #[.string (str x.name), .int .i64 x.thick, .int .i64 x.width, .int .i64 x.allow, .int .i64 x.wane, .slice A1 x.lens.length c1, .slice A2 x.prices.length c2], .agg #[.string (str x.name), .int .i64 x.thick, .int .i64 x.width, .int .i64 x.allow, .int .i64 x.wane, .slice B1 x.lens.length d1, .slice B2 x.prices.length d2]] w (LawP w) := by
  obtain ⟨_, _, _, _, m1⟩ := h1.form
  obtain ⟨_, _, _, _, m2⟩ := h2.form
  unfold maxLen at m1 m2
  obtain ⟨W0, hW0⟩ : ∃ W0, (w.alloc (.cells #[.string (str x.name), .int .i64 x.thick, .int .i64 x.width, .int .i64 x.allow, .int .i64 x.wane, .slice A1 x.lens.length c1, .slice A2 x.prices.length c2] 29)).alloc (.cells #[.string (str x.name), .int .i64 x.thick, .int .i64 x.width, .int .i64 x.allow, .int .i64 x.wane, .slice B1 x.lens.length d1, .slice B2 x.prices.length d2] 29) = W0 := ⟨_, rfl⟩
  have s0 : W0.heap.size = w.heap.size + 2 := by rw [← hW0, World.size_alloc, World.size_alloc]
  have b0 : Below w.heap.size w W0 := by rw [← hW0]; exact ((Below.refl _ _).alloc (Nat.le_refl _) _).alloc (by rw [World.size_alloc]; omega) _
  have G0 := Lib.hid (show W0.heap[w.heap.size]? = some (.cells #[.string (str x.name), .int .i64 x.thick, .int .i64 x.width, .int .i64 x.allow, .int .i64 x.wane, .slice A1 x.lens.length c1, .slice A2 x.prices.length c2] 29 (0, 0)) by rw [← hW0]; exact hpA (heap_alloc_last w _) _)
  have G1 := Lib.hid (show W0.heap[w.heap.size + 1]? = some (.cells #[.string (str x.name), .int .i64 x.thick, .int .i64 x.width, .int .i64 x.allow, .int .i64 x.wane, .slice B1 x.lens.length d1, .slice B2 x.prices.length d2] 29 (0, 0)) by rw [← hW0]; have := heap_alloc_last (w.alloc (.cells #[.string (str x.name), .int .i64 x.thick, .int .i64 x.width, .int .i64 x.allow, .int .i64 x.wane, .slice A1 x.lens.length c1, .slice A2 x.prices.length c2] 29)) (.cells #[.string (str x.name), .int .i64 x.thick, .int .i64 x.width, .int .i64 x.allow, .int .i64 x.wane, .slice B1 x.lens.length d1, .slice B2 x.prices.length d2] 29); rwa [World.size_alloc] at this)
  have H1 := Lib.hid (h1.next b0)
  have H2 := Lib.hid (h2.next b0)
  have K1 := Lib.hid (k1.next b0)
  have K2 := Lib.hid (k2.next b0)
  have HB0 := Lib.hid b0
  have HW0 := Lib.hid hW0
  have p0 : W0.cell? ⟨w.heap.size, 0, none⟩ = some (.string (str x.name)) := cell_box G0.out rfl
  have p1 : W0.cell? ⟨w.heap.size, 1, none⟩ = some (.int .i64 x.thick) := cell_box G0.out rfl
  have p2 : W0.cell? ⟨w.heap.size, 2, none⟩ = some (.int .i64 x.width) := cell_box G0.out rfl
  have p3 : W0.cell? ⟨w.heap.size, 3, none⟩ = some (.int .i64 x.allow) := cell_box G0.out rfl
  have p4 : W0.cell? ⟨w.heap.size, 4, none⟩ = some (.int .i64 x.wane) := cell_box G0.out rfl
  have p5 : W0.cell? ⟨w.heap.size, 5, none⟩ = some (.slice A1 x.lens.length c1) := cell_box G0.out rfl
  have p6 : W0.cell? ⟨w.heap.size, 6, none⟩ = some (.slice A2 x.prices.length c2) := cell_box G0.out rfl
  have q0 : W0.cell? ⟨w.heap.size + 1, 0, none⟩ = some (.string (str x.name)) := cell_box G1.out rfl
  have q1 : W0.cell? ⟨w.heap.size + 1, 1, none⟩ = some (.int .i64 x.thick) := cell_box G1.out rfl
  have q2 : W0.cell? ⟨w.heap.size + 1, 2, none⟩ = some (.int .i64 x.width) := cell_box G1.out rfl
  have q3 : W0.cell? ⟨w.heap.size + 1, 3, none⟩ = some (.int .i64 x.allow) := cell_box G1.out rfl
  have q4 : W0.cell? ⟨w.heap.size + 1, 4, none⟩ = some (.int .i64 x.wane) := cell_box G1.out rfl
  have q5 : W0.cell? ⟨w.heap.size + 1, 5, none⟩ = some (.slice B1 x.lens.length d1) := cell_box G1.out rfl
  have q6 : W0.cell? ⟨w.heap.size + 1, 6, none⟩ = some (.slice B2 x.prices.length d2) := cell_box G1.out rfl
  clear h1 h2 k1 k2 b0 hW0
  go_enter Tryd.func45, Tryd.ntmps45
  go_wp2_with fail
  rw [HW0.out]
  clear p0 p1 p2 p3 p4 p5 p6 q0 q1 q2 q3 q4 q5 q6
  go_loopw [5] (fun i wr => ∃ k : Nat, k ≤ x.lens.length ∧ i = .int .i64 k ∧ Below W0.heap.size W0 wr) (fun i _ => x.lens.length - (intOf i).toNat)
  case atStart => exact ⟨0, by omega, rfl, Below.refl _ _⟩
  case round =>
    obtain ⟨k, hk, rfl, hb⟩ := hrel
    have HB5 := Lib.hid hb
    have hsz := hb.size
    have u1 : wr.cell? ⟨w.heap.size, 5, none⟩ = some (.slice A1 x.lens.length c1) := (hb.cell (p := ⟨w.heap.size, 5, none⟩) (by show w.heap.size < _; omega)).trans (cell_box G0.out rfl)
    have u2 : wr.cell? ⟨w.heap.size + 1, 5, none⟩ = some (.slice B1 x.lens.length d1) := (hb.cell (p := ⟨w.heap.size + 1, 5, none⟩) (by show w.heap.size + 1 < _; omega)).trans (cell_box G1.out rfl)
    clear hb
    by_cases hlt : k < x.lens.length
    · have hx : x.lens[k]? = some x.lens[k] := List.getElem?_eq_getElem hlt
      obtain ⟨n, hn⟩ : ∃ n, x.lens[k] = n := ⟨_, rfl⟩
      rw [hn] at hx
      obtain ⟨ba, oa, hA, hba, qa⟩ := RdI.at_ (H1.out.below HB5.out) hx
      obtain ⟨bb, ob, hB, hbb, qb⟩ := RdI.at_ (K1.out.below HB5.out) hx
      subst hA hB
      have f1 : (0 : Int) ≤ (k : Int) := by omega
      have f2 : (k : Int) < (x.lens.length : Int) := by omega
      clear hx hn
      go_wp2_with fail
      go_quiet (fail)
      go_wp2_with fail
      exact ⟨⟨k + 1, by omega, by go_num, below_drewNn HB5.out _⟩, by simp [intOf]; omega⟩
    · go_wp2_with fail
      clear u1 u2
      go_loopw [6] (fun i wr => ∃ k : Nat, k ≤ x.prices.length ∧ i = .int .i64 k ∧ Below W0.heap.size W0 wr) (fun i _ => x.prices.length - (intOf i).toNat)
      case atStart => exact ⟨0, by omega, rfl, HB5.out⟩
      case round =>
        obtain ⟨k, hk, rfl, hb⟩ := hrel
        have HB6 := Lib.hid hb
        have hsz := hb.size
        have u1 : wr.cell? ⟨w.heap.size, 6, none⟩ = some (.slice A2 x.prices.length c2) := (hb.cell (p := ⟨w.heap.size, 6, none⟩) (by show w.heap.size < _; omega)).trans (cell_box G0.out rfl)
        have u2 : wr.cell? ⟨w.heap.size + 1, 6, none⟩ = some (.slice B2 x.prices.length d2) := (hb.cell (p := ⟨w.heap.size + 1, 6, none⟩) (by show w.heap.size + 1 < _; omega)).trans (cell_box G1.out rfl)
        clear hb
        by_cases hlt : k < x.prices.length
        · have hx : x.prices[k]? = some x.prices[k] := List.getElem?_eq_getElem hlt
          obtain ⟨n, hn⟩ : ∃ n, x.prices[k] = n := ⟨_, rfl⟩
          rw [hn] at hx
          obtain ⟨ba, oa, hA, hba, qa⟩ := RdI.at_ (H2.out.below HB6.out) hx
          obtain ⟨bb, ob, hB, hbb, qb⟩ := RdI.at_ (K2.out.below HB6.out) hx
          subst hA hB
          have f1 : (0 : Int) ≤ (k : Int) := by omega
          have f2 : (k : Int) < (x.prices.length : Int) := by omega
          clear hx hn
          go_wp2_with fail
          go_quiet (fail)
          go_wp2_with fail
          exact ⟨⟨k + 1, by omega, by go_num, below_drewNn HB6.out _⟩, by simp [intOf]; omega⟩
        · go_wp2_with fail
          go_ret
          exact ⟨rfl, HB0.out.trans (HB6.out.mono (by omega))⟩

set_option maxRecDepth 100000 in
set_option maxHeartbeats 1000000 in
theorem same_any (l : List Pr) (va vb : Value) (w : World) (ha : RdPr w w.heap.size va l) (hb : RdPr w w.heap.size vb l) : Calls Tryd.prog 26 #[va, vb] w (LawP w) := by
  obtain ⟨A, c, rfl, _, hml⟩ := ha.form
  obtain ⟨B, d, rfl, _, _⟩ := hb.form
  unfold maxLen at hml
  have HA := Lib.hid ha
  have HB := Lib.hid hb
  clear ha hb
  go_enter Tryd.func26, Tryd.ntmps26
  go_wp2_with fail
  go_loopw [5] (fun i wr => ∃ k : Nat, k ≤ l.length ∧ i = .int .i64 k ∧ Below w.heap.size w wr) (fun i _ => l.length - (intOf i).toNat)
  case atStart => exact ⟨0, by omega, rfl, Below.refl _ _⟩
  case round =>
    obtain ⟨k, hk, rfl, hbw⟩ := hrel
    have HBW := Lib.hid hbw
    have hsz := hbw.size
    clear hbw
    by_cases hlt : k < l.length
    · have hx : l[k]? = some l[k] := List.getElem?_eq_getElem hlt
      obtain ⟨x, hxe⟩ : ∃ x, l[k] = x := ⟨_, rfl⟩
      rw [hxe] at hx
      obtain ⟨ba, oa, A1, c1, A2, c2, rfl, hba, _, _, ri, rp, p0, p1, p2, p3, p4, p5, p6⟩ := RdPr.at_ (HA.out.below HBW.out) hx
      obtain ⟨bb, ob, B1, d1, B2, d2, rfl, hbb, _, _, si, sp, q0, q1, q2, q3, q4, q5, q6⟩ := RdPr.at_ (HB.out.below HBW.out) hx
      have f1 : (0 : Int) ≤ (k : Int) := by omega
      have f2 : (k : Int) < (l.length : Int) := by omega
      have S1 : Hid (∀ dd os, Calls Tryd.prog 45 #[.agg #[.string (str x.name), .int .i64 x.thick, .int .i64 x.width, .int .i64 x.allow, .int .i64 x.wane, .slice A1 x.lens.length c1, .slice A2 x.prices.length c2], .agg #[.string (str x.name), .int .i64 x.thick, .int .i64 x.width, .int .i64 x.allow, .int .i64 x.wane, .slice B1 x.lens.length d1, .slice B2 x.prices.length d2]] (grow (redrawn wr dd) os) fun e w' => e = .returned (.bool true) ∧ Below (grow (redrawn wr dd) os).heap.size (grow (redrawn wr dd) os) w') := fun dd os => by
        have hb := below_regrown wr dd os
        exact sameOne_any x A1 A2 B1 B2 c1 c2 d1 d2 _ ((ri.more hsz).next hb) ((rp.more hsz).next hb) ((si.more hsz).next hb) ((sp.more hsz).next hb)
      have y0 : ∀ dd os, (grow (redrawn wr dd) os).cell? ⟨ba, oa + k * 7, none⟩ = some (.string (str x.name)) := fun dd os => cell_regrown p0 dd os
      have y1 : ∀ dd os, (grow (redrawn wr dd) os).cell? ⟨ba, oa + k * 7 + 1, none⟩ = some (.int .i64 x.thick) := fun dd os => cell_regrown p1 dd os
      have y2 : ∀ dd os, (grow (redrawn wr dd) os).cell? ⟨ba, oa + k * 7 + 2, none⟩ = some (.int .i64 x.width) := fun dd os => cell_regrown p2 dd os
      have y3 : ∀ dd os, (grow (redrawn wr dd) os).cell? ⟨ba, oa + k * 7 + 3, none⟩ = some (.int .i64 x.allow) := fun dd os => cell_regrown p3 dd os
      have y4 : ∀ dd os, (grow (redrawn wr dd) os).cell? ⟨ba, oa + k * 7 + 4, none⟩ = some (.int .i64 x.wane) := fun dd os => cell_regrown p4 dd os
      have y5 : ∀ dd os, (grow (redrawn wr dd) os).cell? ⟨ba, oa + k * 7 + 5, none⟩ = some (.slice A1 x.lens.length c1) := fun dd os => cell_regrown p5 dd os
      have y6 : ∀ dd os, (grow (redrawn wr dd) os).cell? ⟨ba, oa + k * 7 + 6, none⟩ = some (.slice A2 x.prices.length c2) := fun dd os => cell_regrown p6 dd os
      have z0 : ∀ dd os, (grow (redrawn wr dd) os).cell? ⟨bb, ob + k * 7, none⟩ = some (.string (str x.name)) := fun dd os => cell_regrown q0 dd os
      have z1 : ∀ dd os, (grow (redrawn wr dd) os).cell? ⟨bb, ob + k * 7 + 1, none⟩ = some (.int .i64 x.thick) := fun dd os => cell_regrown q1 dd os
      have z2 : ∀ dd os, (grow (redrawn wr dd) os).cell? ⟨bb, ob + k * 7 + 2, none⟩ = some (.int .i64 x.width) := fun dd os => cell_regrown q2 dd os
      have z3 : ∀ dd os, (grow (redrawn wr dd) os).cell? ⟨bb, ob + k * 7 + 3, none⟩ = some (.int .i64 x.allow) := fun dd os => cell_regrown q3 dd os
      have z4 : ∀ dd os, (grow (redrawn wr dd) os).cell? ⟨bb, ob + k * 7 + 4, none⟩ = some (.int .i64 x.wane) := fun dd os => cell_regrown q4 dd os
      have z5 : ∀ dd os, (grow (redrawn wr dd) os).cell? ⟨bb, ob + k * 7 + 5, none⟩ = some (.slice B1 x.lens.length d1) := fun dd os => cell_regrown q5 dd os
      have z6 : ∀ dd os, (grow (redrawn wr dd) os).cell? ⟨bb, ob + k * 7 + 6, none⟩ = some (.slice B2 x.prices.length d2) := fun dd os => cell_regrown q6 dd os
      clear hx hxe ri rp si sp p0 p1 p2 p3 p4 p5 p6 q0 q1 q2 q3 q4 q5 q6
      go_wp2_with fail
      refine wp_region_quiet_below (by kernel_rfl) (by kernel_rfl) ?_
      repeat (first
        | (open Go.BigFrame in go_big_quiet_step ((with_reducible exact Calls.regrown_of (S1.out _ _))))
        | (quiet_step ((with_reducible exact Calls.regrown_of (S1.out _ _)))))
      refine wpQuiet_nil ?_
      rintro w6 ⟨z6, hw6⟩
      have HB6 := Lib.hid (HBW.out.trans ((show Below wr.heap.size wr w6 by rw [hw6]; exact below_regrown _ _ _).mono hsz))
      clear hw6 y0 y1 y2 y3 y4 y5 y6 z0 z1 z2 z3 z4 z5 z6
      go_wp2_with fail
      exact ⟨⟨k + 1, by omega, by go_num, HB6.out⟩, by simp [intOf]; omega⟩
    · go_wp2_with fail
      go_ret
      exact ⟨rfl, HBW.out⟩

end Go.Proofs.YtokgonpeolppnaaDoor
