/-
  The contract of kiln.New.
-/
import Derived.Test.YthineckpociomaaDoorKiN
namespace Go.Proofs.YthineckpociomaaDoor
open Go.RowKit Saw Go.Sort

theorem ownsRow_lt {w : World} {base g : Nat} {e : TypeId} {size : Nat} {v : Value} {n : Nat} {xs : List Value} (h : w.ownsRow base e size v n xs) (hg : v.ownBlock = some g) : g < w.heap.size := by
  obtain ⟨_, h2⟩ := h
  rcases h2 with ⟨rfl, _⟩ | ⟨b, cap, cur, rfl, hb, hc, _⟩
  · cases hg
  · have : b = g := by injection hg
    subst this
    exact (Array.getElem?_eq_some_iff.1 hc).1
set_option maxRecDepth 100000 in
set_option maxHeartbeats 8000000 in
theorem new_any (sc : Sc) (s : Sp) (its : List (Int × Cl)) (A2 : Option Addr) (c2 : Nat) (Ai : Option Addr) (ci : Nat) (w : World) (hst : RdSt w w.heap.size (.slice A2 sc.stages.length c2) sc.stages) (hit : RdIt w w.heap.size (.slice Ai its.length ci) its)
    (h1 : checkSc sc = 0) (h2 : checkSp [s] = 0) (hnm : sc.name.length ≤ 9223372036854775807) (hsn : s.name.length ≤ 9223372036854775807) (hsl : sc.stages.length ≤ 1000) (hl : 0 < its.length ∧ its.length ≤ 1000) (hok : ∀ x ∈ its, ClOk x.2 ∧ 1 ≤ x.1 ∧ x.1 ≤ 600) :
    Calls Tryd.prog 13 #[.agg #[.string (str sc.name), .int .i64 sc.ramp, .slice A2 sc.stages.length c2], .agg #[.string (str s.name), .int .i64 s.green, .int .i64 s.fast, .int .i64 s.slow, .int .i64 s.safe, .int .i64 s.grad, .int .i64 s.crack, .int .i64 s.temp, .int .i64 s.depress, .int .i64 s.density, .int .i64 s.stiff, .int .i64 s.knots, .int .i64 s.shrink], .slice Ai its.length ci] w (fun e w' => ∃ g sv iv, e = .returned (.tuple #[.pointer (some ⟨g, 0, none⟩), .int .i64 0]) ∧ w.heap.size ≤ g ∧ KnAt w' g sc s sv iv (startK its) ∧ Below w.heap.size w w') := by
  have HST := Lib.hid hst
  have HIT := Lib.hid hit
  have H1 := Lib.hid h1
  have H2 := Lib.hid h2
  have HOK := Lib.hid hok
  obtain ⟨hl0, hl1⟩ := hl
  clear hst hit h1 h2 hok
  go_enter Tryd.func13, Tryd.ntmps13
  go_upto_region 1 with fail
  obtain ⟨W2, hW2⟩ : ∃ W2, (w.alloc (.cells #[.string (str sc.name), .int .i64 sc.ramp, .slice A2 sc.stages.length c2] 27)).alloc (.cells #[.string (str s.name), .int .i64 s.green, .int .i64 s.fast, .int .i64 s.slow, .int .i64 s.safe, .int .i64 s.grad, .int .i64 s.crack, .int .i64 s.temp, .int .i64 s.depress, .int .i64 s.density, .int .i64 s.stiff, .int .i64 s.knots, .int .i64 s.shrink] 24) = W2 := ⟨_, rfl⟩
  obtain ⟨n1, hn1⟩ : ∃ n, w.heap.size = n := ⟨_, rfl⟩
  have hz1 : (w.alloc (.cells #[.string (str sc.name), .int .i64 sc.ramp, .slice A2 sc.stages.length c2] 27)).heap.size = n1 + 1 := by rw [World.size_alloc, hn1]
  have HZ2 := Lib.hid (show W2.heap.size = n1 + 2 by rw [← hW2, World.size_alloc, hz1])
  have HB2 := Lib.hid (show Below w.heap.size w W2 by rw [← hW2]; exact bel_alloc (bel_alloc (Below.refl _ _)))
  have hc2 : W2.heap[n1]? = some (.cells #[.string (str sc.name), .int .i64 sc.ramp, .slice A2 sc.stages.length c2] 27 (0, 0)) := by rw [← hW2, Below.heap_alloc _ _ _ (by rw [hz1]; omega), ← hn1]; exact heap_alloc_last w _
  have hp2 : W2.heap[n1 + 1]? = some (.cells #[.string (str s.name), .int .i64 s.green, .int .i64 s.fast, .int .i64 s.slow, .int .i64 s.safe, .int .i64 s.grad, .int .i64 s.crack, .int .i64 s.temp, .int .i64 s.depress, .int .i64 s.density, .int .i64 s.stiff, .int .i64 s.knots, .int .i64 s.shrink] 24 (0, 0)) := by rw [← hW2, ← hz1]; exact heap_alloc_last (w.alloc (.cells #[.string (str sc.name), .int .i64 sc.ramp, .slice A2 sc.stages.length c2] 27)) _
  rw [hW2]
  rw [hn1]
  have HN1 := Lib.hid hn1
  have HC2 := Lib.hid hc2
  have HP2 := Lib.hid hp2
  have HSC : Hid (Calls Tryd.prog 18 #[.agg #[.string (str sc.name), .int .i64 sc.ramp, .slice A2 sc.stages.length c2]] W2 fun e w' => e = .returned (.int .i64 0) ∧ Below W2.heap.size W2 w') := Lib.hid (H1.out ▸ scCheck_big sc A2 c2 W2 (HST.out.next HB2.out) hnm)
  have z0 := cell_of_row W2 n1 0 _ _ _ hc2
  have z1 := cell_of_row W2 n1 1 _ _ _ hc2
  have z2 := cell_of_row W2 n1 2 _ _ _ hc2
  clear hW2 hn1 hz1 hc2 hp2
  go_wp2_with fail
  refine HSC.out.mono ?_
  rintro e w3 ⟨he, hb3⟩
  subst he
  have HB3 := Lib.hid hb3
  have hp3 := (hb3.block _ (by rw [HZ2.out]; omega)).trans HP2.out
  have y0 := cell_of_row w3 (n1 + 1) 0 _ _ _ hp3
  have y1 := cell_of_row w3 (n1 + 1) 1 _ _ _ hp3
  have y2 := cell_of_row w3 (n1 + 1) 2 _ _ _ hp3
  have y3 := cell_of_row w3 (n1 + 1) 3 _ _ _ hp3
  have y4 := cell_of_row w3 (n1 + 1) 4 _ _ _ hp3
  have y5 := cell_of_row w3 (n1 + 1) 5 _ _ _ hp3
  have y6 := cell_of_row w3 (n1 + 1) 6 _ _ _ hp3
  have y7 := cell_of_row w3 (n1 + 1) 7 _ _ _ hp3
  have y8 := cell_of_row w3 (n1 + 1) 8 _ _ _ hp3
  have y9 := cell_of_row w3 (n1 + 1) 9 _ _ _ hp3
  have y10 := cell_of_row w3 (n1 + 1) 10 _ _ _ hp3
  have y11 := cell_of_row w3 (n1 + 1) 11 _ _ _ hp3
  have y12 := cell_of_row w3 (n1 + 1) 12 _ _ _ hp3
  have HB3w := Lib.hid (HB2.out.trans (hb3.mono HB2.out.size))
  obtain ⟨W4, hW4⟩ : ∃ W4, w3.alloc (.cells #[.string (str s.name), .int .i64 s.green, .int .i64 s.fast, .int .i64 s.slow, .int .i64 s.safe, .int .i64 s.grad, .int .i64 s.crack, .int .i64 s.temp, .int .i64 s.depress, .int .i64 s.density, .int .i64 s.stiff, .int .i64 s.knots, .int .i64 s.shrink] 24) = W4 := ⟨_, rfl⟩
  have HW4 := Lib.hid hW4
  have HWC : Hid (Calls Tryd.prog 19 #[.slice (some ⟨w3.heap.size, 0, none⟩) 1 1] W4 fun e w' => e = .returned (.int .i64 0) ∧ Below W4.heap.size W4 w') := Lib.hid (by
    rw [← hW4, ← H2.out]
    exact check_big [s] _ _ (rdSp_one (heap_alloc_last w3 _)) (fun x hx => by rw [List.mem_singleton.1 hx]; exact hsn))
  have HB4 := Lib.hid (show Below W2.heap.size W2 W4 by rw [← hW4]; exact bel_alloc hb3)
  clear hb3 hp3 hW4
  go_wp2_with fail
  rw [HW4.out]
  refine HWC.out.mono ?_
  rintro e w5 ⟨he, hb5⟩
  subst he
  have HB5 := Lib.hid (HB4.out.trans (hb5.mono HB4.out.size))
  have hgz : ((its.length : Int) == 0) = false := by rw [beq_eq_false_iff_ne]; omega
  clear hb5 z0 z1 z2 y0 y1 y2 y3 y4 y5 y6 y7 y8 y9 y10 y11 y12
  go_wp2_with fail
  go_loopw [32] (fun i wr => ∃ k : Nat, k ≤ its.length ∧ i = .int .i64 k ∧ Below W2.heap.size W2 wr) (fun i _ => its.length - (intOf i).toNat)
  case atStart => exact ⟨0, by omega, rfl, HB5.out⟩
  case round =>
    obtain ⟨k, hk, rfl, hb⟩ := hrel
    have HB := Lib.hid hb
    have HBW := Lib.hid (HB2.out.trans (hb.mono HB2.out.size))
    have hszr := hb.size
    by_cases hlt : k < its.length
    · have hx : its[k]? = some its[k] := List.getElem?_eq_getElem hlt
      obtain ⟨x, hxe⟩ : ∃ x, its[k] = x := ⟨_, rfl⟩
      rw [hxe] at hx
      obtain ⟨b, off, rfl, hbl, d0, d1, d2, d3⟩ := (HIT.out.next HBW.out).at_ hx
      obtain ⟨hx1, hx2, hx3⟩ := HOK.out x (List.mem_of_getElem? hx)
      have HMC : Hid (∀ V : World, Calls Tryd.prog 17 #[.agg #[.int .i64 x.2.surf, .int .i64 x.2.core, .int .i64 x.2.stress]] V fun e w' => e = .returned (.int .i64 0) ∧ Below V.heap.size V w') := Lib.hid (fun V => (checkCl_ok.2 hx1) ▸ moistCheck_any x.2 V)
      have HBA := Lib.hid (fun o : Obj => (show Below W2.heap.size W2 (wr.alloc o) from bel_alloc HB.out))
      have g1 : decide (x.1 < 1) = false := by rw [decide_eq_false_iff_not]; omega
      have g2 : decide (600 < x.1) = false := by rw [decide_eq_false_iff_not]; omega
      clear hb hx hxe hx1 hx2 hx3
      go_wp2_with fail
      refine (HMC.out _).mono ?_
      rintro e w6 ⟨he, hb6⟩
      subst he
      have HB6 := Lib.hid ((HBA.out _).trans (hb6.mono (HBA.out _).size))
      clear hb6
      go_wp2_with fail
      exact ⟨⟨k + 1, by omega, by go_num, HB6.out⟩, by simp [intOf]; omega⟩
    · have hc3 := (hb.block _ (by rw [HZ2.out]; omega)).trans HC2.out
      have hp3 := (hb.block _ (by rw [HZ2.out]; omega)).trans HP2.out
      have z2 := cell_of_row wr n1 2 _ _ _ hc3
      have HC3 := Lib.hid hc3
      have HP3 := Lib.hid hp3
      clear hb hc3 hp3
      go_wp2_with fail
      refine (cloneS_any sc.stages A2 c2 wr (HST.out.next HBW.out) (by omega)).mono ?_
      rintro e w7 ⟨A7, c7, rfl, ho7, hb7⟩
      have HB7 := Lib.hid (HB.out.trans (hb7.mono HB.out.size))
      have HO7 := Lib.hid ho7
      have hc7 := (hb7.block _ (Array.getElem?_eq_some_iff.1 HC3.out).1).trans HC3.out
      have hp7 := (hb7.block _ (Array.getElem?_eq_some_iff.1 HP3.out).1).trans HP3.out
      have HC7 := Lib.hid hc7
      have HP7 := Lib.hid hp7
      have q2 := cell_of_row w7 n1 2 _ _ _ hc7
      have f2 := frz hc7 2
      have HSZ7 := Lib.hid (Nat.le_trans hszr hb7.size)
      clear hb7 ho7 hc7 hp7
      go_upto_region 21 with fail
      obtain ⟨X, hX⟩ : ∃ X, w7.setCell ⟨n1, 2, none⟩ (.slice A7 sc.stages.length c7) = X := ⟨_, rfl⟩
      have hcX : X.heap[n1]? = some (.cells #[.string (str sc.name), .int .i64 sc.ramp, .slice A7 sc.stages.length c7] 27 (0, 0)) := by rw [← hX]; exact setc_heap HC7.out _ 2
      have hpX : X.heap[n1 + 1]? = some (.cells #[.string (str s.name), .int .i64 s.green, .int .i64 s.fast, .int .i64 s.slow, .int .i64 s.safe, .int .i64 s.grad, .int .i64 s.crack, .int .i64 s.temp, .int .i64 s.depress, .int .i64 s.density, .int .i64 s.stiff, .int .i64 s.knots, .int .i64 s.shrink] 24 (0, 0)) := by rw [← hX]; exact (Below.heap_setCell _ _ _ _ (by show n1 + 1 ≠ n1; omega)).trans HP7.out
      have hzX : X.heap.size = w7.heap.size := by rw [← hX]; simp [World.setCell]
      have hBX : Below w.heap.size w X := by rw [← hX]; exact Below.setCell (HB2.out.trans (HB7.out.mono HB2.out.size)) (p := ⟨n1, 2, none⟩) (by show w.heap.size ≤ n1; rw [HN1.out]; exact Nat.le_refl _) _
      have hbw : n1 + 1 < X.heap.size := by have h1 := HSZ7.out; have h2 := HZ2.out; omega
      have HSTX : Hid (RdSt X X.heap.size (.slice A7 sc.stages.length c7) sc.stages) := Lib.hid (by
        rw [hzX, ← hX]
        exact rd_setO (Rd.of_own HO7.out) (own_ne HO7.out (by have h1 := hszr; have h2 := HZ2.out; omega)))
      rw [hX]
      have HBX := Lib.hid hBX
      have HITX := Lib.hid (HIT.out.next hBX)
      have SF : Hid (∀ V : World, Below X.heap.size X V → (V.cell? ⟨n1, 0, none⟩ = some (.string (str sc.name)) ∧ V.cell? ⟨n1, 1, none⟩ = some (.int .i64 sc.ramp) ∧ V.cell? ⟨n1, 2, none⟩ = some (.slice A7 sc.stages.length c7) ∧ V.cell? ⟨n1 + 1, 0, none⟩ = some (.string (str s.name)) ∧ V.cell? ⟨n1 + 1, 1, none⟩ = some (.int .i64 s.green) ∧ V.cell? ⟨n1 + 1, 2, none⟩ = some (.int .i64 s.fast) ∧ V.cell? ⟨n1 + 1, 3, none⟩ = some (.int .i64 s.slow) ∧ V.cell? ⟨n1 + 1, 4, none⟩ = some (.int .i64 s.safe) ∧ V.cell? ⟨n1 + 1, 5, none⟩ = some (.int .i64 s.grad) ∧ V.cell? ⟨n1 + 1, 6, none⟩ = some (.int .i64 s.crack) ∧ V.cell? ⟨n1 + 1, 7, none⟩ = some (.int .i64 s.temp) ∧ V.cell? ⟨n1 + 1, 8, none⟩ = some (.int .i64 s.depress) ∧ V.cell? ⟨n1 + 1, 9, none⟩ = some (.int .i64 s.density) ∧ V.cell? ⟨n1 + 1, 10, none⟩ = some (.int .i64 s.stiff) ∧ V.cell? ⟨n1 + 1, 11, none⟩ = some (.int .i64 s.knots) ∧ V.cell? ⟨n1 + 1, 12, none⟩ = some (.int .i64 s.shrink))) := Lib.hid (fun V hV => by
        have hc := (hV.block _ (by omega)).trans hcX
        have hp := (hV.block _ hbw).trans hpX
        exact ⟨cell_of_row V n1 0 _ _ _ hc, cell_of_row V n1 1 _ _ _ hc, cell_of_row V n1 2 _ _ _ hc, cell_of_row V (n1 + 1) 0 _ _ _ hp, cell_of_row V (n1 + 1) 1 _ _ _ hp, cell_of_row V (n1 + 1) 2 _ _ _ hp, cell_of_row V (n1 + 1) 3 _ _ _ hp, cell_of_row V (n1 + 1) 4 _ _ _ hp, cell_of_row V (n1 + 1) 5 _ _ _ hp, cell_of_row V (n1 + 1) 6 _ _ _ hp, cell_of_row V (n1 + 1) 7 _ _ _ hp, cell_of_row V (n1 + 1) 8 _ _ _ hp, cell_of_row V (n1 + 1) 9 _ _ _ hp, cell_of_row V (n1 + 1) 10 _ _ _ hp, cell_of_row V (n1 + 1) 11 _ _ _ hp, cell_of_row V (n1 + 1) 12 _ _ _ hp⟩)
      clear hX hcX hpX hzX hBX q2 f2
      have HB0 := Lib.hid (show Below X.heap.size X X.drew from bel_drew (Below.refl _ _))
      have S0 := Lib.hid (SF.out X.drew HB0.out)
      go_region_held3 (fun V => V.cell? ⟨n1, 0, none⟩ = some (.string (str sc.name)) ∧ V.cell? ⟨n1, 1, none⟩ = some (.int .i64 sc.ramp) ∧ V.cell? ⟨n1, 2, none⟩ = some (.slice A7 sc.stages.length c7) ∧ V.cell? ⟨n1 + 1, 0, none⟩ = some (.string (str s.name)) ∧ V.cell? ⟨n1 + 1, 1, none⟩ = some (.int .i64 s.green) ∧ V.cell? ⟨n1 + 1, 2, none⟩ = some (.int .i64 s.fast) ∧ V.cell? ⟨n1 + 1, 3, none⟩ = some (.int .i64 s.slow) ∧ V.cell? ⟨n1 + 1, 4, none⟩ = some (.int .i64 s.safe) ∧ V.cell? ⟨n1 + 1, 5, none⟩ = some (.int .i64 s.grad) ∧ V.cell? ⟨n1 + 1, 6, none⟩ = some (.int .i64 s.crack) ∧ V.cell? ⟨n1 + 1, 7, none⟩ = some (.int .i64 s.temp) ∧ V.cell? ⟨n1 + 1, 8, none⟩ = some (.int .i64 s.depress) ∧ V.cell? ⟨n1 + 1, 9, none⟩ = some (.int .i64 s.density) ∧ V.cell? ⟨n1 + 1, 10, none⟩ = some (.int .i64 s.stiff) ∧ V.cell? ⟨n1 + 1, 11, none⟩ = some (.int .i64 s.knots) ∧ V.cell? ⟨n1 + 1, 12, none⟩ = some (.int .i64 s.shrink))
        (with_reducible first | exact S0.out | exact S8.out | exact S9.out | exact SA.out)
        (first
          | (go_at_call 22; refine (cloneI_any its Ai ci X.drew (HITX.out.next HB0.out) (by omega)).mono ?_; rintro e w8 ⟨A8, c8, rfl, ho8, hb8⟩; have HO8 := Lib.hid ho8; have HB8 := Lib.hid (show Below X.heap.size X w8 from HB0.out.trans hb8); have S8 := Lib.hid (SF.out w8 HB8.out); clear ho8 hb8)
          | (go_at_call 23; refine (outside_any w8).mono ?_; rintro e w9 ⟨he, hb9⟩; have he : e = .returned (.agg #[.int .i64 200, .int .i64 100]) := he; subst he; have HB9 := Lib.hid (HB8.out.trans (hb9.mono HB8.out.size)); have HO9 := Lib.hid (ownsRow_below HO8.out hb9); have S9 := Lib.hid (SF.out w9 HB9.out); have SA := Lib.hid (SF.out (w9.alloc (.cells #[.string (str sc.name), .int .i64 sc.ramp, .slice A7 sc.stages.length c7, .string (str s.name), .int .i64 s.green, .int .i64 s.fast, .int .i64 s.slow, .int .i64 s.safe, .int .i64 s.grad, .int .i64 s.crack, .int .i64 s.temp, .int .i64 s.depress, .int .i64 s.density, .int .i64 s.stiff, .int .i64 s.knots, .int .i64 s.shrink, .slice A8 its.length c8, .int .i64 200, .int .i64 100, .int .i64 0, .int .i64 0, .int .i64 0, .int .i64 0] 78)) (bel_alloc HB9.out)); clear hb9))
      all_goals
        simp only [Exit.then]
        go_wp2_with fail
        go_ret2
        have hle := HB9.out.size
        have hBW : Below w.heap.size w w9 := HBX.out.trans (HB9.out.mono HBX.out.size)
        have hBA : Below X.heap.size X (w9.alloc (.cells #[.string (str sc.name), .int .i64 sc.ramp, .slice A7 sc.stages.length c7, .string (str s.name), .int .i64 s.green, .int .i64 s.fast, .int .i64 s.slow, .int .i64 s.safe, .int .i64 s.grad, .int .i64 s.crack, .int .i64 s.temp, .int .i64 s.depress, .int .i64 s.density, .int .i64 s.stiff, .int .i64 s.knots, .int .i64 s.shrink, .slice A8 its.length c8, .int .i64 200, .int .i64 100, .int .i64 0, .int .i64 0, .int .i64 0, .int .i64 0] 78)) := bel_alloc HB9.out
        exact ⟨w9.heap.size, .slice A7 sc.stages.length c7, .slice A8 its.length c8, rfl, hBW.size, ⟨heap_alloc_last w9 _, (HSTX.out.below hBA).more hle, Rd.of_own (ownsRow_below HO9.out (bel_alloc (Below.refl _ _))), fun h => absurd (ownsRow_lt HO9.out h) (Nat.lt_irrefl _)⟩, bel_alloc hBW⟩
end Go.Proofs.YthineckpociomaaDoor
