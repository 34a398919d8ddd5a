/-
  The contracts of curve.Value, air.Table, Emc.
-/
import Derived.Test.YthineckpociomaaDoorKiB
namespace Saw
theorem zip_longer {xs vs : List Int} (n : Nat) (h : xs.length = vs.length) : xs.zip (vs ++ List.replicate n 0) = xs.zip vs := by
  rw [show xs = xs ++ [] by rw [List.append_nil], List.zip_append (by simpa using h)]
  simp
end Saw
namespace Go.Proofs.YthineckpociomaaDoor
open Go.RowKit Saw

/-- The values of a grid's rows while they are laid in an array of 16: k of them stand. -/
def arrL (vals : List Int) (k : Nat) : List Int := vals.take k ++ List.replicate (16 - k) 0
theorem arrL_len {vals : List Int} {k : Nat} (hk : k ≤ vals.length) (h : vals.length ≤ 16) : (arrL vals k).length = 16 := by
  unfold arrL; rw [List.length_append, List.length_take, List.length_replicate]; omega
theorem arrL_set {vals : List Int} {k : Nat} {x : Int} (hx : vals[k]? = some x) (h : vals.length ≤ 16) : ((ints (arrL vals k)).toArray.setIfInBounds k (.int .i64 x)) = (ints (arrL vals (k + 1))).toArray := by
  have hk := (List.getElem?_eq_some_iff.1 hx).1
  rw [List.setIfInBounds_toArray]
  congr 1
  unfold arrL ints
  rw [List.take_add_one, hx, show 16 - k = (16 - (k + 1)) + 1 by omega, List.replicate_succ, List.map_append, List.map_append, List.map_append, List.map_cons]
  have hl : (List.map (Value.int IntKind.i64) (vals.take k)).length = k := by rw [List.length_map, List.length_take]; omega
  rw [List.set_append_right _ _ (by omega), hl, Nat.sub_self, List.set_cons_zero]
  simp
theorem hpA {w : World} {g : Nat} {o : Obj} (h : w.heap[g]? = some o) (o' : Obj) : (w.alloc o').heap[g]? = some o := (Below.heap_alloc _ _ _ (Array.getElem?_eq_some_iff.1 h).1).trans h
theorem cells3 {w : World} {N : Nat} {a b c : Value} {t : TypeId} (h : w.heap[N]? = some (.cells #[a, b, c] t (0, 0))) : w.cell? ⟨N, 0, none⟩ = some a ∧ w.cell? ⟨N, 1, none⟩ = some b ∧ w.cell? ⟨N, 2, none⟩ = some c :=
  ⟨cell_of_box h rfl, cell_of_box h rfl, cell_of_box h rfl⟩
theorem frz {w : World} {g : Nat} {cs : Array Value} {t : TypeId} (h : w.heap[g]? = some (.cells cs t (0, 0))) (i : Nat) : w.frozen? ⟨g, i, none⟩ = false := by
  simp [World.frozen?, h]
/-- Value's memory: the grid in its box, the array of values. -/
structure VaSt (w W : World) (N g : Nat) (xv yv vv : Value) (vals : List Int) (k : Nat) : Prop where
  box : W.heap[N]? = some (.cells #[xv, yv, vv] 139 (0, 0))
  arr : W.heap[g]? = some (.cells (ints (arrL vals k)).toArray 151 (0, 0))
  bel : Below N w W
  gt : N < g
theorem VaSt.cell {w W : World} {N g : Nat} {xv yv vv : Value} {vals : List Int} {k : Nat} (h : VaSt w W N g xv yv vv vals k) (h16 : vals.length ≤ 16) (hk : k < vals.length) : ∃ u, W.cell? ⟨g, k, none⟩ = some u := by
  rw [cell_of_row W g k _ _ _ h.arr]
  have hl : (ints (arrL vals k)).length = 16 := by rw [ints, List.length_map, arrL_len (by omega) h16]
  rw [List.getElem?_toArray, List.getElem?_eq_getElem (by omega)]
  exact ⟨_, rfl⟩
theorem VaSt.step {w W : World} {N g : Nat} {xv yv vv : Value} {vals : List Int} {k : Nat} {x : Int} (h : VaSt w W N g xv yv vv vals k) (h16 : vals.length ≤ 16) (hx : vals[k]? = some x) : VaSt w (W.setCell ⟨g, k, none⟩ (.int .i64 x)) N g xv yv vv vals (k + 1) := by
  have hgt := h.gt
  refine ⟨(Below.heap_setCell _ _ _ _ (show N ≠ g by omega)).trans h.box, ?_, Below.setCell h.bel (show N ≤ Addr.block ⟨g, k, none⟩ from Nat.le_of_lt hgt) _, hgt⟩
  rw [← arrL_set hx h16]
  exact setc_heap h.arr _ _
theorem VaSt.below {w W W5 : World} {N g : Nat} {xv yv vv : Value} {vals : List Int} {k : Nat} (h : VaSt w W N g xv yv vv vals k) (hb : Below W.heap.size W W5) (hN : N ≤ W.heap.size) : VaSt w W5 N g xv yv vv vals k :=
  ⟨(hb.block _ (Array.getElem?_eq_some_iff.1 h.box).1).trans h.box, (hb.block _ (Array.getElem?_eq_some_iff.1 h.arr).1).trans h.arr, h.bel.trans (hb.mono hN), h.gt⟩

set_option maxRecDepth 100000 in
set_option maxHeartbeats 4000000 in
theorem value_any (xv yv vv : Value) (xs ys : List Int) (rows : List (List Int)) (x y : Int) (w : World) (hrd : RdG w w.heap.size xv yv vv xs ys rows) (hg : GridOk xs ys rows) (hx : -1000000 ≤ x ∧ x ≤ 1000000) (hy : -1000000 ≤ y ∧ y ≤ 1000000) (hrow : ∀ row ∈ rows, CurveOk (ys.zip row)) (hcol : CurveOk (xs.zip (rows.map fun row => atP (ys.zip row) y))) :
    Calls Tryd.prog 75 #[.agg #[xv, yv, vv], .int .i64 x, .int .i64 y] w (IntB (atP (xs.zip (rows.map fun row => atP (ys.zip row) y)) x) w) := by
  obtain ⟨vals, hvals⟩ : ∃ vals, (rows.map fun row => atP (ys.zip row) y) = vals := ⟨_, rfl⟩
  rw [hvals] at hcol ⊢
  have hvl : vals.length = rows.length := by rw [← hvals, List.length_map]
  obtain ⟨A, c, rfl, hcc, hml⟩ := hrd.x.form
  obtain ⟨A2, c2, rfl, hcc2, hml2⟩ := hrd.y.form
  obtain ⟨A3, c3, rfl, hml3⟩ := hrd.v.form
  obtain ⟨W0, hW0⟩ : ∃ W0, w.alloc (.cells #[.slice A xs.length c, .slice A2 ys.length c2, .slice A3 rows.length c3] 139) = W0 := ⟨_, rfl⟩
  have hs0 : W0.heap.size = w.heap.size + 1 := by rw [← hW0, World.size_alloc]
  have hb0 : Below w.heap.size w W0 := by rw [← hW0]; exact bel_alloc (Below.refl _ _)
  have hg0 : W0.heap[w.heap.size]? = some (.cells #[.slice A xs.length c, .slice A2 ys.length c2, .slice A3 rows.length c3] 139 (0, 0)) := by rw [← hW0]; exact heap_alloc_last w _
  have HRD := Lib.hid (hrd.next hb0)
  have HRD0 := Lib.hid hrd
  have HG := Lib.hid hg
  have HB0 := Lib.hid hb0
  have HG0 := Lib.hid hg0
  have HS0 := Lib.hid hs0
  have HVL := Lib.hid hvl
  have HV := Lib.hid hvals
  have HROW := Lib.hid hrow
  have HCOL := Lib.hid hcol
  have hrows : rows.length ≤ 16 := by have := hg.v0; have := hg.x0; omega
  obtain ⟨c0, c1, c2'⟩ := cells3 hg0
  clear hrd hg hb0 hg0 hs0 hvl hvals hrow hcol
  go_enter Tryd.func75, Tryd.ntmps75
  go_wp2_with fail
  refine (checkGrid_any _ _ _ xs ys rows _ HRD.out HG.out).mono ?_
  rintro e w1 ⟨he, hb1⟩
  subst he
  have HB1 := Lib.hid hb1
  have hg1 := (hb1.block w.heap.size (by rw [HS0.out]; omega)).trans HG0.out
  obtain ⟨c0, c1, c2'⟩ := cells3 hg1
  have HR1 := Lib.hid (HRD.out.next hb1)
  have hsz1 : w.heap.size < w1.heap.size := by have := hb1.size; rw [HS0.out] at this; omega
  have HG1 := Lib.hid hg1
  clear hb1 hg1
  go_wp2_with fail
  obtain ⟨g, hgg⟩ : ∃ g, w1.heap.size = g := ⟨_, rfl⟩
  obtain ⟨N, hN⟩ : ∃ N, w.heap.size = N := ⟨_, rfl⟩
  rw [hgg, hN]
  have HGG := Lib.hid hgg
  have HNN := Lib.hid hN
  clear hgg hN
  go_loopw [16] (fun i wr => ∃ k : Nat, k ≤ rows.length ∧ i = .int .i64 k ∧ VaSt w wr N g (.slice A xs.length c) (.slice A2 ys.length c2) (.slice A3 rows.length c3) vals k) (fun i _ => rows.length - (intOf i).toNat)
  case atStart =>
    refine ⟨0, by omega, rfl, ?_⟩
    have hgg := HGG.out
    have hN := HNN.out
    subst hgg hN
    refine ⟨(Below.heap_alloc _ _ _ (by omega)).trans HG1.out, heap_alloc_last w1 _, ?_, hsz1⟩
    exact (HB0.out.trans (HB1.out.mono (by rw [HS0.out]; omega))).alloc (by omega) _
  case round =>
    obtain ⟨k, hk, rfl, hst⟩ := hrel
    have HST := Lib.hid hst
    have hNg := hst.gt
    have hbox := hst.box
    have hbel := hst.bel
    obtain ⟨c0, c1, c2'⟩ := cells3 hbox
    have hgw := (Array.getElem?_eq_some_iff.1 hst.arr).1
    have HRW := Lib.hid (HRD0.out.next (show Below w.heap.size w wr by rw [HNN.out]; exact hbel))
    clear hst hbox hbel
    by_cases hlt : k < rows.length
    · have hx1 : rows[k]? = some rows[k] := List.getElem?_eq_getElem hlt
      obtain ⟨row, hxe⟩ : ∃ row, rows[k] = row := ⟨_, rfl⟩
      rw [hxe] at hx1
      obtain ⟨b, off, A4, c4, rfl, hbl, q0, hrow⟩ := HRW.out.v.at_ hx1
      have HRR := Lib.hid hrow
      have HVK := Lib.hid (show vals[k]? = some (atP (ys.zip row) y) by rw [← HV.out, List.getElem?_map, hx1]; rfl)
      have HRL := Lib.hid (HG.out.vl row (List.mem_of_getElem? hx1)).1
      have HRC := Lib.hid (HROW.out row (List.mem_of_getElem? hx1))
      clear hx1 hxe hrow
      go_wp2_with fail
      refine (points_any ys row _ _ _ HRW.out.y HRR.out (by rw [HRL.out]; omega) (by have := HG.out.y0; omega)).mono ?_
      rintro e w4 ⟨v, rfl, hpt, hb4⟩
      have HPT := Lib.hid hpt
      have HST4 := Lib.hid (HST.out.below hb4 (by omega))
      have hgw4 := hb4.size
      clear hpt hb4
      go_wp2_with fail
      refine (at_any _ v y _ HPT.out HRC.out hy.1 hy.2).mono ?_
      rintro e w5 ⟨he, hb5⟩
      subst he
      have HST5 := Lib.hid (HST4.out.below hb5 (by omega))
      have hgw5 := hb5.size
      clear hb5
      have k16 : k < 16 := by omega
      have hkv := HVL.out
      obtain ⟨u0, hu0⟩ := HST5.out.cell (by omega) (by omega)
      have hf := frz HST5.out.arr
      have HN := Lib.hid (HST5.out.step (by omega) HVK.out)
      clear hkv
      go_wp2_with fail
      exact ⟨⟨k + 1, by omega, by go_num, HN.out⟩, by simp [intOf]; omega⟩
    · have hkr : k = vals.length := by rw [HVL.out]; omega
      have HARR := Lib.hid (show RdI wr wr.heap.size (.slice (some ⟨g, 0, none⟩) 16 16) (vals ++ List.replicate (16 - vals.length) 0) from by
        have h := HST.out.arr
        rw [hkr, arrL, List.take_length] at h
        have hl : (vals ++ List.replicate (16 - vals.length) 0).length = 16 := by rw [List.length_append, List.length_replicate, HVL.out]; omega
        refine ⟨by rw [ints, List.length_map, Nat.mul_one], by rw [hl]; unfold maxLen; omega, _, 16, by rw [hl], by rw [hl]; omega, fun _ => ⟨g, 0, rfl, hgw, fun j u hu => ?_⟩⟩
        rw [Nat.zero_add, cell_of_row wr g j _ _ _ h, List.getElem?_toArray]
        exact hu)
      have HBL := Lib.hid HST.out.bel
      have HZ := Lib.hid (show xs.length = vals.length from by rw [HVL.out, HG.out.v0])
      clear hkr
      go_wp2_with fail
      go_region_with (first
        | (go_at_call 86; refine (points_any xs (vals ++ List.replicate (16 - vals.length) 0) _ _ wr.drew HRW.out.x HARR.out (by rw [List.length_append, HZ.out]; omega) (by have := HG.out.x0; omega)).mono ?_; rintro e w4 ⟨v, rfl, hpt, hb4⟩; rw [zip_longer _ HZ.out] at hpt; have HPT := Lib.hid hpt; have HB4 := Lib.hid hb4; clear hpt hb4)
        | (go_at_call 85; refine (at_any _ _ x _ HPT.out HCOL.out hx.1 hx.2).mono ?_; rintro e w5 ⟨he, hb5⟩; subst he; have HB5 := Lib.hid hb5; clear hb5))
      all_goals
        go_wp2_with fail
        go_ret
        refine ⟨rfl, ?_⟩
        have h4 : Below wr.heap.size wr w4 := ⟨HB4.out.os, HB4.out.tape, HB4.out.output, HB4.out.size, HB4.out.block⟩
        have hs4 := h4.size
        rw [HNN.out]
        exact HBL.out.trans ((h4.trans (HB5.out.mono hs4)).mono (by omega))

def rowO (l : List Int) : Obj := .cells (ints l).toArray 3
def sl (g n : Nat) : Value := .slice (some ⟨g, 0, none⟩) n n
def gridO (N : Nat) : Obj := .cells #[sl (N + 1) 6, sl (N + 1 + 1) 7, sl (N + 1 + 1 + 1 + 1 + 1 + 1 + 1 + 1 + 1) 6] 139
def rowsO (N : Nat) : Obj := .cells #[sl (N + 1 + 1 + 1) 7, sl (N + 1 + 1 + 1 + 1) 7, sl (N + 1 + 1 + 1 + 1 + 1) 7, sl (N + 1 + 1 + 1 + 1 + 1 + 1) 7, sl (N + 1 + 1 + 1 + 1 + 1 + 1 + 1) 7, sl (N + 1 + 1 + 1 + 1 + 1 + 1 + 1 + 1) 7] 81
/-- The memory behind air.Table. -/
def tabW (w : World) : World := ((((((((((w.alloc (gridO w.heap.size)).alloc (rowO tabX)).alloc (rowO tabY)).alloc (rowO (tabV.getD 0 []))).alloc (rowO (tabV.getD 1 []))).alloc (rowO (tabV.getD 2 []))).alloc (rowO (tabV.getD 3 []))).alloc (rowO (tabV.getD 4 []))).alloc (rowO (tabV.getD 5 []))).alloc (rowsO w.heap.size))
theorem rdI_blk {W : World} {g : Nat} {l : List Int} (h : W.heap[g]? = some (rowO l)) (hl : l.length ≤ 1000) : RdI W W.heap.size (sl g l.length) l := by
  refine ⟨by rw [ints, List.length_map, Nat.mul_one], by unfold maxLen; omega, _, _, rfl, Nat.le_refl _, fun _ => ⟨g, 0, rfl, (Array.getElem?_eq_some_iff.1 h).1, fun j u hu => ?_⟩⟩
  rw [Nat.zero_add, cell_of_row W g j _ _ _ h, List.getElem?_toArray]
  exact hu
theorem tab_rd (w : World) : RdG (tabW w) (tabW w).heap.size (sl (w.heap.size + 1) 6) (sl (w.heap.size + 1 + 1) 7) (sl (w.heap.size + 1 + 1 + 1 + 1 + 1 + 1 + 1 + 1 + 1) 6) tabX tabY tabV ∧ Below w.heap.size w (tabW w) ∧ (tabW w).heap[w.heap.size]? = some (gridO w.heap.size) := by
  have a0 := heap_alloc_last w (gridO w.heap.size)
  have a1 := heap_alloc_last (w.alloc (gridO w.heap.size)) (rowO tabX)
  have a2 := heap_alloc_last ((w.alloc (gridO w.heap.size)).alloc (rowO tabX)) (rowO tabY)
  have a3 := heap_alloc_last (((w.alloc (gridO w.heap.size)).alloc (rowO tabX)).alloc (rowO tabY)) (rowO (tabV.getD 0 []))
  have a4 := heap_alloc_last ((((w.alloc (gridO w.heap.size)).alloc (rowO tabX)).alloc (rowO tabY)).alloc (rowO (tabV.getD 0 []))) (rowO (tabV.getD 1 []))
  have a5 := heap_alloc_last (((((w.alloc (gridO w.heap.size)).alloc (rowO tabX)).alloc (rowO tabY)).alloc (rowO (tabV.getD 0 []))).alloc (rowO (tabV.getD 1 []))) (rowO (tabV.getD 2 []))
  have a6 := heap_alloc_last ((((((w.alloc (gridO w.heap.size)).alloc (rowO tabX)).alloc (rowO tabY)).alloc (rowO (tabV.getD 0 []))).alloc (rowO (tabV.getD 1 []))).alloc (rowO (tabV.getD 2 []))) (rowO (tabV.getD 3 []))
  have a7 := heap_alloc_last (((((((w.alloc (gridO w.heap.size)).alloc (rowO tabX)).alloc (rowO tabY)).alloc (rowO (tabV.getD 0 []))).alloc (rowO (tabV.getD 1 []))).alloc (rowO (tabV.getD 2 []))).alloc (rowO (tabV.getD 3 []))) (rowO (tabV.getD 4 []))
  have a8 := heap_alloc_last ((((((((w.alloc (gridO w.heap.size)).alloc (rowO tabX)).alloc (rowO tabY)).alloc (rowO (tabV.getD 0 []))).alloc (rowO (tabV.getD 1 []))).alloc (rowO (tabV.getD 2 []))).alloc (rowO (tabV.getD 3 []))).alloc (rowO (tabV.getD 4 []))) (rowO (tabV.getD 5 []))
  have a9 := heap_alloc_last (((((((((w.alloc (gridO w.heap.size)).alloc (rowO tabX)).alloc (rowO tabY)).alloc (rowO (tabV.getD 0 []))).alloc (rowO (tabV.getD 1 []))).alloc (rowO (tabV.getD 2 []))).alloc (rowO (tabV.getD 3 []))).alloc (rowO (tabV.getD 4 []))).alloc (rowO (tabV.getD 5 []))) (rowsO w.heap.size)
  simp only [World.size_alloc] at a1 a2 a3 a4 a5 a6 a7 a8 a9
  have b0 : (tabW w).heap[w.heap.size]? = some (gridO w.heap.size) := (hpA (hpA (hpA (hpA (hpA (hpA (hpA (hpA (hpA a0 _) _) _) _) _) _) _) _) _)
  have b1 : (tabW w).heap[w.heap.size + 1]? = some (rowO tabX) := (hpA (hpA (hpA (hpA (hpA (hpA (hpA (hpA a1 _) _) _) _) _) _) _) _)
  have b2 : (tabW w).heap[w.heap.size + 1 + 1]? = some (rowO tabY) := (hpA (hpA (hpA (hpA (hpA (hpA (hpA a2 _) _) _) _) _) _) _)
  have b3 : (tabW w).heap[w.heap.size + 1 + 1 + 1]? = some (rowO (tabV.getD 0 [])) := (hpA (hpA (hpA (hpA (hpA (hpA a3 _) _) _) _) _) _)
  have b4 : (tabW w).heap[w.heap.size + 1 + 1 + 1 + 1]? = some (rowO (tabV.getD 1 [])) := (hpA (hpA (hpA (hpA (hpA a4 _) _) _) _) _)
  have b5 : (tabW w).heap[w.heap.size + 1 + 1 + 1 + 1 + 1]? = some (rowO (tabV.getD 2 [])) := (hpA (hpA (hpA (hpA a5 _) _) _) _)
  have b6 : (tabW w).heap[w.heap.size + 1 + 1 + 1 + 1 + 1 + 1]? = some (rowO (tabV.getD 3 [])) := (hpA (hpA (hpA a6 _) _) _)
  have b7 : (tabW w).heap[w.heap.size + 1 + 1 + 1 + 1 + 1 + 1 + 1]? = some (rowO (tabV.getD 4 [])) := (hpA (hpA a7 _) _)
  have b8 : (tabW w).heap[w.heap.size + 1 + 1 + 1 + 1 + 1 + 1 + 1 + 1]? = some (rowO (tabV.getD 5 [])) := (hpA a8 _)
  have b9 : (tabW w).heap[w.heap.size + 1 + 1 + 1 + 1 + 1 + 1 + 1 + 1 + 1]? = some (rowsO w.heap.size) := a9
  refine ⟨⟨rdI_blk b1 (by decide), rdI_blk b2 (by decide), ?_⟩, ?_, b0⟩
  · refine ⟨[sl (w.heap.size + 1 + 1 + 1) 7, sl (w.heap.size + 1 + 1 + 1 + 1) 7, sl (w.heap.size + 1 + 1 + 1 + 1 + 1) 7, sl (w.heap.size + 1 + 1 + 1 + 1 + 1 + 1) 7, sl (w.heap.size + 1 + 1 + 1 + 1 + 1 + 1 + 1) 7, sl (w.heap.size + 1 + 1 + 1 + 1 + 1 + 1 + 1 + 1) 7], ⟨rfl, (show 6 ≤ maxLen by unfold maxLen; omega), _, _, rfl, Nat.le_refl _, fun _ => ⟨_, 0, rfl, (Array.getElem?_eq_some_iff.1 b9).1, fun j u hu => ?_⟩⟩, rfl, ?_⟩
    · rw [Nat.zero_add, cell_of_row _ _ j _ _ _ b9]
      rw [← hu, List.getElem?_toArray]
    · intro i row hr
      match i, hr with
      | 0, hr => injection hr with hr; subst hr; exact ⟨_, rfl, rdI_blk b3 (by decide)⟩
      | 1, hr => injection hr with hr; subst hr; exact ⟨_, rfl, rdI_blk b4 (by decide)⟩
      | 2, hr => injection hr with hr; subst hr; exact ⟨_, rfl, rdI_blk b5 (by decide)⟩
      | 3, hr => injection hr with hr; subst hr; exact ⟨_, rfl, rdI_blk b6 (by decide)⟩
      | 4, hr => injection hr with hr; subst hr; exact ⟨_, rfl, rdI_blk b7 (by decide)⟩
      | 5, hr => injection hr with hr; subst hr; exact ⟨_, rfl, rdI_blk b8 (by decide)⟩
      | i + 6, hr => cases hr
  · unfold tabW
    repeat (first | exact Below.refl _ _ | apply bel_alloc)
theorem grid_info : (Tryd.prog.info? 139).map (·.size) = some 3 := by kernel_rfl
theorem grid_ok : GridOk tabX tabY tabV := by
  refine ⟨by decide, by decide, by decide, by decide, ?_, ?_, by decide, by decide⟩
  · intro i p q hp hq
    match i with
    | 0 => injection hp with hp; injection hq with hq; subst hp hq; decide
    | 1 => injection hp with hp; injection hq with hq; subst hp hq; decide
    | 2 => injection hp with hp; injection hq with hq; subst hp hq; decide
    | 3 => injection hp with hp; injection hq with hq; subst hp hq; decide
    | 4 => injection hp with hp; injection hq with hq; subst hp hq; decide
    | i + 5 => cases hq
  · intro i p q hp hq
    match i with
    | 0 => injection hp with hp; injection hq with hq; subst hp hq; decide
    | 1 => injection hp with hp; injection hq with hq; subst hp hq; decide
    | 2 => injection hp with hp; injection hq with hq; subst hp hq; decide
    | 3 => injection hp with hp; injection hq with hq; subst hp hq; decide
    | 4 => injection hp with hp; injection hq with hq; subst hp hq; decide
    | 5 => injection hp with hp; injection hq with hq; subst hp hq; decide
    | i + 6 => cases hq

set_option maxRecDepth 100000 in
set_option maxHeartbeats 4000000 in
theorem table_any (w : World) : Calls Tryd.prog 76 #[] w fun e w' => ∃ xv yv vv, e = .returned (.agg #[xv, yv, vv]) ∧ RdG w' w'.heap.size xv yv vv tabX tabY tabV ∧ Below w.heap.size w w' := by
  obtain ⟨h1, h2, h3⟩ := tab_rd w
  have HT := Lib.hid h1
  have HB := Lib.hid h2
  have H0 := Lib.hid h3
  clear h1 h2 h3
  go_enter Tryd.func76, Tryd.ntmps76
  go_wp2_with fail
  refine bodyPost_ret (w := tabW w) (results_cell1 Tryd.results76 _ (tabW w) w.heap.size 0 _ rfl (rangeAt_block H0.out) Tryd.underlying139 rfl grid_info) rfl ⟨_, _, _, rfl, HT.out, HB.out⟩

theorem emcP_def (t d : Int) : emcP t d = atP (tabX.zip (tabV.map fun row => atP (tabY.zip row) d)) t := rfl
set_option maxRecDepth 100000 in
set_option maxHeartbeats 1000000 in
theorem emc_any (c : Cm) (w : World) (hc : airOk c) : Calls Tryd.prog 59 #[.agg #[.int .i64 c.temp, .int .i64 c.dep]] w (IntB (emcP c.temp c.dep) w) := by
  obtain ⟨h1, h2, h3, h4⟩ := hc
  have hN : w.heap.size < w.heap.size + 1 := by omega
  go_enter Tryd.func59, Tryd.ntmps59
  go_wp2_with fail
  obtain ⟨W0, hW0⟩ : ∃ W0, w.alloc (.cells #[.int .i64 c.temp, .int .i64 c.dep] 42) = W0 := ⟨_, rfl⟩
  have hb0 : Below w.heap.size w W0 := by rw [← hW0]; exact bel_alloc (Below.refl _ _)
  have hs0 : W0.heap.size = w.heap.size + 1 := by rw [← hW0, World.size_alloc]
  have hc0 : W0.heap[w.heap.size]? = some (.cells #[.int .i64 c.temp, .int .i64 c.dep] 42 (0, 0)) := by rw [← hW0]; exact heap_alloc_last w _
  have q0 := cell_of_box (j := 0) (v := .int .i64 c.temp) hc0 rfl
  have q1 := cell_of_box (j := 1) (v := .int .i64 c.dep) hc0 rfl
  rw [hW0]
  have HB0 := Lib.hid hb0
  have HS0 := Lib.hid hs0
  have HC0 := Lib.hid hc0
  clear hb0 hs0 hc0 hW0
  go_region_with (first
    | (go_at_call 76; refine (table_any W0.drew).mono ?_; rintro e w4 ⟨xv, yv, vv, rfl, hrd, hb4⟩; have HRD := Lib.hid hrd; have HB4 := Lib.hid (show Below W0.heap.size W0 w4 from ⟨hb4.os, hb4.tape, hb4.output, hb4.size, hb4.block⟩); have r0 := cell_of_box (j := 0) (v := .int .i64 c.temp) ((HB4.out.block w.heap.size (by rw [HS0.out]; omega)).trans HC0.out) rfl; have r1 := cell_of_box (j := 1) (v := .int .i64 c.dep) ((HB4.out.block w.heap.size (by rw [HS0.out]; omega)).trans HC0.out) rfl; clear hrd hb4)
    | (go_at_call 75; refine (value_any _ _ _ tabX tabY tabV c.temp c.dep _ HRD.out grid_ok (by omega) (by omega) (fun row hr => (row_curve hr).1) (vals_curve c.dep)).mono ?_; rintro e w5 ⟨he, hb5⟩; subst he; have HB5 := Lib.hid hb5; clear hb5))
  all_goals
    go_wp2_with fail
    go_ret
    refine ⟨rfl, ?_⟩
    have hs4 := HB4.out.size
    have hs5 := HS0.out
    exact HB0.out.trans ((HB4.out.trans (HB5.out.mono hs4)).mono (by omega))
end Go.Proofs.YthineckpociomaaDoor
