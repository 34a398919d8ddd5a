/-
  The contract of kilnAwake.
-/
import Derived.Test.YthineckpociomaaDoorKiX
namespace Go.Proofs.YthineckpociomaaDoor
open Go.RowKit Saw Go.Sort

theorem rdFa_one {w : World} {n : Nat} {x : Fa} (h : w.heap[n]? = some (.cells #[.int .i64 x.kind, .int .i64 x.fro, .int .i64 x.upto] 54 (0, 0))) : RdFa w w.heap.size (.slice (some ⟨n, 0, none⟩) 1 1) [x] := by
  have hz := (Array.getElem?_eq_some_iff.1 h).1
  refine ⟨rfl, show 1 ≤ maxLen by decide, some ⟨n, 0, none⟩, 1, rfl, Nat.le_refl _, fun _ => ⟨n, 0, rfl, hz, fun i y hy => ?_⟩⟩
  rw [cell_of_row _ n (0 + i) _ _ _ h, Nat.zero_add, List.getElem?_toArray]
  exact hy
set_option maxRecDepth 100000 in
set_option maxHeartbeats 8000000 in
theorem kilnAwake_any (w : World) (hv : VarsK w) : Calls Tryd.prog 4 #[] w fun e w' => e = .returned (.bool true) ∧ Below w.heap.size w w' := by
  have HV := Lib.hid hv
  clear hv
  go_enter Tryd.func4, Tryd.ntmps4
  go_wp2_with fail
  refine (green_any 4000 _).mono ?_
  rintro e w1 ⟨rfl, hb1⟩
  have HB1 := Lib.hid hb1
  clear hb1
  have HRN := Lib.hid (rdBo_one (heap_alloc_last w1 (.cells (boCells (greenB 4000)).toArray 40)))
  go_wp2_with ((with_reducible refine wpList_sliceAs (t := 22) 18 (boCells (greenB 4000)).toArray Tryd.underlying22 bo_info bo_zero ?h1 ?h2 ?hf ?_); (case h1 => decide); (case h2 => decide); (case hf => kernel_rfl); intro arr harr; subst harr)
  have HR1 := Lib.hid (show RdBo (w1.alloc (.cells (boCells (greenB 4000)).toArray 40)) (.slice (some ⟨w1.heap.size, 0, none⟩) 1 1) [greenB 4000] from HRN.out)
  have HB1a := Lib.hid (show Below w.heap.size w (w1.alloc (.cells (boCells (greenB 4000)).toArray 40)) from bel_alloc (HB1.out.mono (Nat.le_refl _)))
  refine (pine_any _).mono ?_
  rintro e w2 ⟨rfl, hb2⟩
  have HB2 := Lib.hid (HB1a.out.trans (hb2.mono HB1a.out.size))
  have HR2 := Lib.hid (show RdBo w2 (.slice (some ⟨w1.heap.size, 0, none⟩) 1 1) [greenB 4000] from Rd.next HR1.out hb2)
  clear hb2
  go_wp2_with fail
  refine (soft_any w2).mono ?_
  rintro e w3 ⟨rfl, hst3, hb3⟩
  have HB3 := Lib.hid (HB2.out.trans (hb3.mono HB2.out.size))
  have HR3 := Lib.hid (show RdBo w3 (.slice (some ⟨w1.heap.size, 0, none⟩) 1 1) [greenB 4000] from Rd.next HR2.out hb3)
  have HST3 := Lib.hid hst3
  clear hb3 hst3
  go_wp2_with fail
  have hdf : ∀ V : World, DfOk V V.heap.size (.slice none 0 0) 0 := fun V => ⟨[], ⟨rfl, Nat.zero_le _, none, 0, rfl, Nat.le_refl _, fun h => absurd h (Nat.lt_irrefl 0)⟩, fun u hu => by cases hu⟩
  have hbi : ∀ V : World, ∀ b ∈ [greenB 4000], BdI b ∧ DfOk V V.heap.size (.slice b.da b.dn b.dc) b.dn ∧ b.dn ≤ 1000 := fun V b hb => by
    rw [List.mem_singleton.1 hb]
    exact ⟨⟨⟨by decide, by decide⟩, ⟨by decide, by decide⟩, ⟨by decide, by decide⟩, ⟨by decide, by decide⟩⟩, hdf V, by decide⟩
  have HBI := Lib.hid hbi
  clear hbi hdf
  have HD3 := Lib.hid ((dry_any [greenB 4000] pineP softP [] 400 (some ⟨w1.heap.size, 0, none⟩) 1 (some ⟨w2.heap.size + 1, 0, none⟩) 2 none 0 w3 HR3.out HST3.out ⟨rfl, Nat.zero_le _, none, 0, rfl, Nat.le_refl _, fun h => absurd h (Nat.lt_irrefl 0)⟩ (HBI.out w3) (by decide) (by decide) (by decide) (by decide) (HV.out.next HB3.out)))
  refine HD3.out.mono ?_
  rintro e w4 ⟨_, hd4⟩
  obtain ⟨A4, c4, r4, rfl, hdr4, hrd4, hb4⟩ := hd4 dryA
  have eA : runP softP pineP [] (Int.toNat 400) ([greenB 4000].map itemP) = runA := by rw [itemsG]; rfl
  rw [eA] at hdr4 ⊢
  obtain ⟨RA, hRA⟩ : ∃ R, runA = R := ⟨_, rfl⟩
  have HOA := Lib.hid (hRA ▸ runA_ok)
  rw [hRA] at hdr4 ⊢
  unfold ruV
  have HB4 := Lib.hid (HB3.out.trans (hb4.mono HB3.out.size))
  have HRD4 := Lib.hid hrd4
  have HDR4 := Lib.hid hdr4
  clear hb4 hrd4 hdr4 eA hRA
  go_wp2_with fail
  obtain ⟨W5, hW5⟩ : ∃ W5, w4.alloc (.cells #[.int .i64 RA.k.ticks, .int .i64 RA.k.held, .int .i64 RA.k.stage, .int .i64 RA.hot.temp, .int .i64 RA.hot.dep, .int .i64 RA.grad] 44) = W5 := ⟨_, rfl⟩
  obtain ⟨na, hna⟩ : ∃ n, w4.heap.size = n := ⟨_, rfl⟩
  have HNA := Lib.hid (show W5.heap[na]? = some (ruO RA) by rw [← hW5, ← hna]; exact heap_alloc_last w4 _)
  have HB5 := Lib.hid (show Below w.heap.size w W5 by rw [← hW5]; exact bel_alloc HB4.out)
  have HRD5 := Lib.hid (show RdBo W5 (.slice A4 1 c4) r4 from Rd.next HRD4.out (by rw [← hW5]; exact bel_alloc (Below.refl _ _)))
  rw [hW5]
  rw [hna]
  clear hW5 hna
  refine (green_any 4000 _).mono ?_
  rintro e w6 ⟨rfl, hb6⟩
  have HB6 := Lib.hid (HB5.out.trans (hb6.mono HB5.out.size))
  have HN6 := Lib.hid ((hb6.block _ (Array.getElem?_eq_some_iff.1 HNA.out).1).trans HNA.out)
  have HRD6 := Lib.hid (show RdBo w6 (.slice A4 1 c4) r4 from Rd.next HRD5.out hb6)
  clear hb6
  have HRM := Lib.hid (rdBo_one (heap_alloc_last w6 (.cells (boCells (greenB 4000)).toArray 40)))
  go_wp2_with ((with_reducible refine wpList_sliceAs (t := 22) 18 (boCells (greenB 4000)).toArray Tryd.underlying22 bo_info bo_zero ?h1 ?h2 ?hf ?_); (case h1 => decide); (case h2 => decide); (case hf => kernel_rfl); intro arr harr; subst harr)
  have HG6 := Lib.hid (show Below w6.heap.size w6 (w6.alloc (.cells (boCells (greenB 4000)).toArray 40)) from bel_alloc (Below.refl _ _))
  have HR6 := Lib.hid (show RdBo (w6.alloc (.cells (boCells (greenB 4000)).toArray 40)) (.slice (some ⟨w6.heap.size, 0, none⟩) 1 1) [greenB 4000] from HRM.out)
  refine (pine_any _).mono ?_
  rintro e w7 ⟨rfl, hb7⟩
  have HG7 := Lib.hid (HG6.out.trans (hb7.mono HG6.out.size))
  have HR7 := Lib.hid (show RdBo w7 (.slice (some ⟨w6.heap.size, 0, none⟩) 1 1) [greenB 4000] from Rd.next HR6.out hb7)
  clear hb7
  go_wp2_with fail
  refine (soft_any w7).mono ?_
  rintro e w8 ⟨rfl, hst8, hb8⟩
  have HG8 := Lib.hid (HG7.out.trans (hb8.mono HG7.out.size))
  have HR8 := Lib.hid (show RdBo w8 (.slice (some ⟨w6.heap.size, 0, none⟩) 1 1) [greenB 4000] from Rd.next HR7.out hb8)
  have HST8 := Lib.hid hst8
  clear hb8 hst8
  go_wp2_with fail
  obtain ⟨W9, hW9⟩ : ∃ W9, w8.alloc (.cells #[.int .i64 2, .int .i64 0, .int .i64 400] 54) = W9 := ⟨_, rfl⟩
  obtain ⟨nf, hnf⟩ : ∃ n, w8.heap.size = n := ⟨_, rfl⟩
  have HF9 := Lib.hid (show W9.heap[nf]? = some (.cells #[.int .i64 2, .int .i64 0, .int .i64 400] 54 (0, 0)) by rw [← hW9, ← hnf]; exact heap_alloc_last w8 _)
  have HB89 := Lib.hid (show Below w8.heap.size w8 W9 by rw [← hW9]; exact bel_alloc (Below.refl _ _))
  have HG9 := Lib.hid (HG8.out.trans (HB89.out.mono HG8.out.size))
  have HR9 := Lib.hid (show RdBo W9 (.slice (some ⟨w6.heap.size, 0, none⟩) 1 1) [greenB 4000] from Rd.next HR8.out HB89.out)
  have HST9 := Lib.hid (HST8.out.next HB89.out)
  rw [hW9, hnf]
  clear hW9 hnf
  have HFA9 := Lib.hid (show RdFa W9 W9.heap.size (.slice (some ⟨nf, 0, none⟩) 1 1) [⟨2, 0, 400⟩] from rdFa_one HF9.out)
  have HBW9 := Lib.hid (HB6.out.trans (HG9.out.mono HB6.out.size))
  have HD9 := Lib.hid ((dry_any [greenB 4000] pineP softP [⟨2, 0, 400⟩] 400 (some ⟨w6.heap.size, 0, none⟩) 1 (some ⟨w7.heap.size + 1, 0, none⟩) 2 (some ⟨nf, 0, none⟩) 1 W9 HR9.out HST9.out HFA9.out (HBI.out W9) (by decide) (by decide) (by decide) (by decide) (HV.out.next HBW9.out)))
  refine HD9.out.mono ?_
  rintro e w10 ⟨_, hd10⟩
  obtain ⟨A10, c10, r10, rfl, hdr10, hrd10, hb10⟩ := hd10 dryB
  have eB : runP softP pineP [⟨2, 0, 400⟩] (Int.toNat 400) ([greenB 4000].map itemP) = runB := by rw [itemsG]; rfl
  rw [eB] at hdr10 ⊢
  obtain ⟨RB, hRB⟩ : ∃ R, runB = R := ⟨_, rfl⟩
  have HOB := Lib.hid (hRB ▸ runB_ok)
  rw [hRB] at hdr10 ⊢
  unfold ruV
  have HG10 := Lib.hid (HG9.out.trans (hb10.mono HG9.out.size))
  have HRD10 := Lib.hid hrd10
  have HDR10 := Lib.hid hdr10
  clear hb10 hrd10 hdr10 eB hRB
  go_wp2_with fail
  obtain ⟨W11, hW11⟩ : ∃ W11, w10.alloc (.cells #[.int .i64 RB.k.ticks, .int .i64 RB.k.held, .int .i64 RB.k.stage, .int .i64 RB.hot.temp, .int .i64 RB.hot.dep, .int .i64 RB.grad] 44) = W11 := ⟨_, rfl⟩
  obtain ⟨nb, hnb⟩ : ∃ n, w10.heap.size = n := ⟨_, rfl⟩
  have HNB := Lib.hid (show W11.heap[nb]? = some (ruO RB) by rw [← hW11, ← hnb]; exact heap_alloc_last w10 _)
  have HG11 := Lib.hid (show Below w6.heap.size w6 W11 by rw [← hW11]; exact bel_alloc HG10.out)
  have HRD11 := Lib.hid (show RdBo W11 (.slice A10 1 c10) r10 from Rd.next HRD10.out (by rw [← hW11]; exact bel_alloc (Below.refl _ _)))
  rw [hW11]
  rw [hnb]
  clear hW11 hnb
  have HRA := Lib.hid (show RdBo W11 (.slice A4 1 c4) r4 from Rd.next HRD6.out HG11.out)
  have HNA11 := Lib.hid ((HG11.out.block _ (Array.getElem?_eq_some_iff.1 HN6.out).1).trans HN6.out)
  have HBW := Lib.hid (HB6.out.trans (HG11.out.mono HB6.out.size))
  -- what the runs gave
  have hlA : r4.length = 1 := by
    obtain ⟨_, _, _, _, he, _⟩ := HRA.out
    injection he with _ he _
    exact he.symm
  have hlB : r10.length = 1 := by
    obtain ⟨_, _, _, _, he, _⟩ := HRD11.out
    injection he with _ he _
    exact he.symm
  obtain ⟨uA, hwA, hrA⟩ : ∃ (x : Bd) (q : x.dried = true ∧ x.surf < 4000), r4[0]? = some x := by
    obtain ⟨h1, h2⟩ := HDR4.out
    have hx : RA.k.items[0]? = some (RA.k.items[0]'(by omega)) := List.getElem?_eq_getElem _
    obtain ⟨A, c, h3⟩ := h2 0 _ _ rfl hx
    have h4 := HOA.out
    unfold okA at h4
    simp only [Bool.and_eq_true, List.all_eq_true, decide_eq_true_eq] at h4
    exact ⟨_, ⟨rfl, h4.2 _ (List.mem_of_getElem? hx)⟩, h3⟩
  obtain ⟨uB, hwB, hrB⟩ : ∃ (x : Bd) (q : x.surf = 4000 ∧ x.core = 4000 ∧ x.stress = 0), r10[0]? = some x := by
    obtain ⟨h1, h2⟩ := HDR10.out
    have h4 := HOB.out
    unfold okB at h4
    simp only [Bool.and_eq_true, decide_eq_true_eq] at h4
    obtain ⟨A, c, h3⟩ := h2 0 _ (42, ⟨4000, 4000, 0⟩) rfl (by rw [h4.2]; rfl)
    exact ⟨_, ⟨rfl, rfl, rfl⟩, h3⟩
  have hoA : RA.hot.temp ≤ 900 ∧ RA.hot.dep ≤ 300 ∧ RA.grad ≤ 900 ∧ 0 < RA.k.ticks := by
    have h4 := HOA.out
    unfold okA at h4
    simp only [Bool.and_eq_true, decide_eq_true_eq] at h4
    exact ⟨h4.1.1.1.1, h4.1.1.1.2, h4.1.1.2, h4.1.2⟩
  have hoB : RB.hot.temp ≤ 900 ∧ RB.hot.dep ≤ 300 ∧ RB.grad ≤ 900 ∧ RB.k.ticks = 400 := by
    have h4 := HOB.out
    unfold okB at h4
    simp only [Bool.and_eq_true, decide_eq_true_eq] at h4
    exact ⟨h4.1.1.1.1, h4.1.1.1.2, h4.1.1.2, h4.1.2⟩
  obtain ⟨b4, o4, rfl, hb4, hg4⟩ := RdBo.at_ HRA.out hrA
  obtain ⟨b10, o10, rfl, hb10, hg10⟩ := RdBo.at_ HRD11.out hrB
  have SA : Hid (∀ W, Calls Tryd.prog 10 #[.agg #[.int .i64 RA.k.ticks, .int .i64 RA.k.held, .int .i64 RA.k.stage, .int .i64 RA.hot.temp, .int .i64 RA.hot.dep, .int .i64 RA.grad], .agg (spCells pineP).toArray] W fun e w' => e = .returned (.bool true) ∧ Below W.heap.size W w') := Lib.hid (fun W => (safe_any RA pineP W).mono fun e w' ⟨he, hb⟩ => ⟨by rw [he, decide_eq_true (show RA.hot.temp ≤ pineP.temp from hoA.1), decide_eq_true (show RA.hot.dep ≤ pineP.depress from hoA.2.1), decide_eq_true (show RA.grad ≤ pineP.grad from hoA.2.2.1)]; rfl, hb⟩)
  have SB : Hid (∀ W, Calls Tryd.prog 10 #[.agg #[.int .i64 RB.k.ticks, .int .i64 RB.k.held, .int .i64 RB.k.stage, .int .i64 RB.hot.temp, .int .i64 RB.hot.dep, .int .i64 RB.grad], .agg (spCells pineP).toArray] W fun e w' => e = .returned (.bool true) ∧ Below W.heap.size W w') := Lib.hid (fun W => (safe_any RB pineP W).mono fun e w' ⟨he, hb⟩ => ⟨by rw [he, decide_eq_true (show RB.hot.temp ≤ pineP.temp from hoB.1), decide_eq_true (show RB.hot.dep ≤ pineP.depress from hoB.2.1), decide_eq_true (show RB.grad ≤ pineP.grad from hoB.2.2.1)]; rfl, hb⟩)
  have SP : Hid (∀ W, Calls Tryd.prog 8 #[] W fun e w' => e = .returned (.agg (spCells pineP).toArray) ∧ Below W.heap.size W w') := Lib.hid pine_any
  have HTA := Lib.hid hoA.2.2.2
  have HTB := Lib.hid hoB.2.2.2
  obtain ⟨a0, ha0⟩ : ∃ x, RA.k.ticks = x := ⟨_, rfl⟩
  obtain ⟨a1, ha1⟩ : ∃ x, RA.k.held = x := ⟨_, rfl⟩
  obtain ⟨a2, ha2⟩ : ∃ x, RA.k.stage = x := ⟨_, rfl⟩
  obtain ⟨a3, ha3⟩ : ∃ x, RA.hot.temp = x := ⟨_, rfl⟩
  obtain ⟨a4, ha4⟩ : ∃ x, RA.hot.dep = x := ⟨_, rfl⟩
  obtain ⟨a5, ha5⟩ : ∃ x, RA.grad = x := ⟨_, rfl⟩
  obtain ⟨b1, hb1⟩ : ∃ x, RB.k.held = x := ⟨_, rfl⟩
  obtain ⟨b2, hb2⟩ : ∃ x, RB.k.stage = x := ⟨_, rfl⟩
  obtain ⟨b3, hb3⟩ : ∃ x, RB.hot.temp = x := ⟨_, rfl⟩
  obtain ⟨b9, hb9⟩ : ∃ x, RB.hot.dep = x := ⟨_, rfl⟩
  obtain ⟨b5, hb5⟩ : ∃ x, RB.grad = x := ⟨_, rfl⟩
  have hNA := HNA11.out
  have hNB := HNB.out
  unfold ruO at hNA hNB
  rw [ha0, ha1, ha2, ha3, ha4, ha5] at hNA SA
  rw [hoB.2.2.2, hb1, hb2, hb3, hb9, hb5] at hNB SB
  have hta : decide (0 < a0) = true := decide_eq_true (by rw [← ha0]; exact hoA.2.2.2)
  have HYA := Lib.hid (rangeAt_block hNA)
  have HYB := Lib.hid (rangeAt_block hNB)
  have hlna := (Array.getElem?_eq_some_iff.1 hNA).1
  have hlnb := (Array.getElem?_eq_some_iff.1 hNB).1
  have ca : ∀ d os, (grow (redrawn W11 d) os).cell? ⟨na, 0, none⟩ = some (.int .i64 a0) := fun d os => cell_regrown (cell_of_row W11 na 0 _ _ (0, 0) hNA) d os
  have cb : ∀ d os, (grow (redrawn W11 d) os).cell? ⟨nb, 0, none⟩ = some (.int .i64 400) := fun d os => cell_regrown (cell_of_row W11 nb 0 _ _ (0, 0) hNB) d os
  have gA16 : W11.cell? ⟨b4, o4 + 0 * 18 + 16, none⟩ = some (.bool true) := by rw [hg4 16 _ (boC16 uA), hwA.1]
  have gA13 : W11.cell? ⟨b4, o4 + 0 * 18 + 13, none⟩ = some (.int .i64 uA.surf) := hg4 13 _ (boC13 uA)
  have cA16 : ∀ d os, (grow (redrawn W11 d) os).cell? ⟨b4, o4 + 0 * 18 + 16, none⟩ = some (.bool true) := fun d os => cell_regrown gA16 d os
  have cA13 : ∀ d os, (grow (redrawn W11 d) os).cell? ⟨b4, o4 + 0 * 18 + 13, none⟩ = some (.int .i64 uA.surf) := fun d os => cell_regrown gA13 d os
  have hsa : decide (uA.surf < 4000) = true := decide_eq_true hwA.2
  have HGB : Hid (W11.rangeAt b10 (o10 + 0 * 18 + 13) [.int .i64 4000, .int .i64 4000, .int .i64 0]) := Lib.hid (fun i v hv => by
    have hi : i < 3 := (List.getElem?_eq_some_iff.1 hv).1
    rw [Nat.add_assoc]
    match i, hi with
    | 0, _ => rw [hg10 13 _ (boC13 uB), hwB.1]; exact hv
    | 1, _ => rw [hg10 14 _ (boC14 uB), hwB.2.1]; exact hv
    | 2, _ => rw [hg10 15 _ (boC15 uB), hwB.2.2]; exact hv)
  clear hNA hNB hoA hoB ha0 ha1 ha2 ha3 ha4 ha5 hb1 hb2 hb3 hb9 hb5 hwA hwB hg4 hg10 hlA hlB hrA hrB gA16 gA13
  refine wp_region_quiet_below (by kernel_rfl) (by kernel_rfl) ?_
  repeat (first
    | ((with_reducible refine quiet_load na 0 [.int .i64 a0, .int .i64 a1, .int .i64 a2, .int .i64 a3, .int .i64 a4, .int .i64 a5] ?hw ?hx HYA.out hlna Tryd.underlying44 ?hd ?hi ?_); (case hi => exact run_info); (case hw => kernel_rfl); (case hx => rfl); (case hd => rfl))
    | ((with_reducible refine quiet_load nb 0 [.int .i64 400, .int .i64 b1, .int .i64 b2, .int .i64 b3, .int .i64 b9, .int .i64 b5] ?hw ?hx HYB.out hlnb Tryd.underlying44 ?hd ?hi ?_); (case hi => exact run_info); (case hw => kernel_rfl); (case hx => rfl); (case hd => rfl))
    | ((with_reducible refine quiet_load b10 (o10 + 0 * 18 + 13) [.int .i64 4000, .int .i64 4000, .int .i64 0] ?hw ?hx HGB.out hb10 Tryd.underlying38 ?hd ?hi ?_); (case hi => exact cell_info); (case hw => kernel_rfl); (case hx => rfl); (case hd => rfl))
    | (open Go.BigFrame in go_big_quiet_step ((first | (with_reducible exact Calls.regrown_of (SP.out _)) | (with_reducible exact Calls.regrown_of (SA.out _)) | (with_reducible exact Calls.regrown_of (SB.out _)))))
    | (quiet_step ((first | (with_reducible exact Calls.regrown_of (SP.out _)) | (with_reducible exact Calls.regrown_of (SA.out _)) | (with_reducible exact Calls.regrown_of (SB.out _))))))
  refine wpQuiet_nil ?_
  rintro w12 ⟨p12, hw12⟩
  have hb12 : Below W11.heap.size W11 w12 := by rw [hw12]; exact below_regrown _ _ _
  have HBZ := Lib.hid (HBW.out.trans (hb12.mono HBW.out.size))
  clear hw12 hb12
  go_wp2_with fail
  go_ret
  exact ⟨rfl, HBZ.out⟩
end Go.Proofs.YthineckpociomaaDoor
