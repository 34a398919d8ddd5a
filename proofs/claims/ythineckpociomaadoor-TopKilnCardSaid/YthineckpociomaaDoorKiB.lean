/-
  The contracts of curve.points, CheckGrid, Value; air.Table, Emc.
-/
import Derived.Test.YthineckpociomaaDoorKiA
import Derived.Lib.JoinLaws
namespace Go.Proofs.YthineckpociomaaDoor
open Go.RowKit Saw

theorem pt_info : (Tryd.prog.info? 160).map (·.size) = some 2 := by kernel_rfl
theorem pt_infoE : (Tryd.prog.info? 160).map (fun i => (i.zero, i.size, i.bytes)) = some (some (.agg #[.int .i64 0, .int .i64 0]), 2, 16) := by kernel_rfl
theorem made_pts (n : Nat) (hn : n ≤ 1000) (W : World) : (Instr.makeSlice 153 (.int .i64 (n : Int)) (.int .i64 (n : Int))).run Tryd.prog W = .ok (.slice (some ⟨W.heap.size, 0, none⟩) n n) (W.alloc (.cells (madeCells #[.int .i64 0, .int .i64 0] (n * 2)) 160)) := by
  obtain ⟨i, hi, hzz⟩ := Option.map_eq_some_iff.1 pt_infoE
  simp only [Prod.mk.injEq] at hzz
  obtain ⟨hz, hs, hb⟩ := hzz
  have hr := run_make (P := Tryd.prog) W 153 160 i _ Tryd.underlying153 hi hz .i64 .i64 n n (by omega) (by omega) (by rw [hb]; omega) (by omega)
  simp only [Int.toNat_natCast, hs] at hr
  exact hr
theorem setc_heap {W : World} {g : Nat} {cs : Array Value} {t : TypeId} (h : W.heap[g]? = some (.cells cs t (0, 0))) (x : Value) (j : Nat) : (W.setCell ⟨g, j, none⟩ x).heap[g]? = some (.cells (cs.setIfInBounds j x) t (0, 0)) := by rw [setCell_eq_setRow W g j _ _ _ _ h, setRow_heap _ _ _ _ _ _ h]
/-- The points while they are laid: k of them stand. -/
structure PtSt (w W : World) (n k : Nat) (l : List (Int × Int)) : Prop where
  row : ∃ cs, W.heap[w.heap.size]? = some (.cells cs 160 (0, 0)) ∧ cs.size = n * 2 ∧ ∀ j, j < k * 2 → cs[j]? = (ptsCells l)[j]?
  bel : Below w.heap.size w W
theorem PtSt.cell {w W : World} {n k : Nat} {l : List (Int × Int)} (h : PtSt w W n k l) {j : Nat} (hj : j < n * 2) : ∃ u, W.cell? ⟨w.heap.size, j, none⟩ = some u := by
  obtain ⟨cs, h1, h2, _⟩ := h.row
  rw [cell_of_row W _ j cs _ _ h1, Array.getElem?_eq_getElem (by omega)]
  exact ⟨_, rfl⟩
theorem PtSt.frozen {w W : World} {n k : Nat} {l : List (Int × Int)} (h : PtSt w W n k l) (j : Nat) : W.frozen? ⟨w.heap.size, j, none⟩ = false := by
  obtain ⟨cs, h1, _, _⟩ := h.row
  simp [World.frozen?, h1]
theorem PtSt.step {w W : World} {n k : Nat} {l : List (Int × Int)} {x y : Int} (h : PtSt w W n k l) (hk : k < n) (hx : l[k]? = some (x, y)) : PtSt w ((W.setCell ⟨w.heap.size, k * 2, none⟩ (.int .i64 x)).setCell ⟨w.heap.size, k * 2 + 1, none⟩ (.int .i64 y)).drew n (k + 1) l := by
  obtain ⟨cs, h1, h2, h3⟩ := h.row
  have g2 := setc_heap (setc_heap h1 (.int .i64 x) (k * 2)) (.int .i64 y) (k * 2 + 1)
  refine ⟨⟨_, g2, by rw [Array.size_setIfInBounds, Array.size_setIfInBounds]; exact h2, fun j hj => ?_⟩, bel_drew (Below.setCell (Below.setCell h.bel (show w.heap.size ≤ Addr.block ⟨w.heap.size, k * 2, none⟩ from Nat.le_refl _) _) (show w.heap.size ≤ Addr.block ⟨w.heap.size, k * 2 + 1, none⟩ from Nat.le_refl _) _)⟩
  rw [Array.getElem?_setIfInBounds, Array.getElem?_setIfInBounds, Array.size_setIfInBounds]
  have q0 := pts_at l k (x, y) hx 0 (by omega)
  have q1 := pts_at l k (x, y) hx 1 (by omega)
  by_cases e : k * 2 + 1 = j
  · subst e
    rw [if_pos rfl, if_pos (by omega), q1]
    rfl
  · rw [if_neg e]
    by_cases e : k * 2 = j
    · subst e
      rw [if_pos rfl, if_pos (by omega)]
      exact q0.symm
    · rw [if_neg e]
      exact h3 j (by omega)
theorem PtSt.done {w W : World} {n : Nat} {l : List (Int × Int)} (h : PtSt w W n n l) (hn : l.length = n) (hm : n ≤ 1000) : RdPt W W.heap.size (.slice (some ⟨w.heap.size, 0, none⟩) n n) l := by
  obtain ⟨cs, h1, h2, h3⟩ := h.row
  refine ⟨ptsCells_length l, by unfold maxLen; omega, _, n, by rw [hn], by omega, fun h0 => ⟨_, 0, rfl, (Array.getElem?_eq_some_iff.1 h1).1, fun j u hu => ?_⟩⟩
  rw [Nat.zero_add, cell_of_row W _ j cs _ _ h1]
  have hj := (List.getElem?_eq_some_iff.1 hu).1
  rw [ptsCells_length, hn] at hj
  rw [h3 j hj]
  exact hu
theorem zip_at {xs vs : List Int} {k : Nat} {x y : Int} (h1 : xs[k]? = some x) (h2 : vs[k]? = some y) : (xs.zip vs)[k]? = some (x, y) := by
  rw [List.getElem?_zip_eq_some]; exact ⟨h1, h2⟩

set_option maxRecDepth 100000 in
set_option maxHeartbeats 1000000 in
theorem points_any (xs vs : List Int) (xv vv : Value) (w : World) (hx : RdI w w.heap.size xv xs) (hv : RdI w w.heap.size vv vs) (hl : xs.length ≤ vs.length) (hl2 : xs.length ≤ 1000) :
    Calls Tryd.prog 86 #[xv, vv] w fun e w' => ∃ v, e = .returned v ∧ RdPt w' w'.heap.size v (xs.zip vs) ∧ Below w.heap.size w w' := by
  obtain ⟨A, c, rfl, hcc, hml⟩ := hx.form
  obtain ⟨A2, c2, rfl, hcc2, hml2⟩ := hv.form
  have HX := Lib.hid hx
  have HV := Lib.hid hv
  unfold maxLen at hml hml2
  clear hx hv
  have hmk := made_pts xs.length hl2
  go_enter Tryd.func86, Tryd.ntmps86
  go_wp2_with fail
  go_loopw [12] (fun i wr => ∃ k : Nat, k ≤ xs.length ∧ i = .int .i64 k ∧ PtSt w wr xs.length k (xs.zip vs)) (fun i _ => xs.length - (intOf i).toNat)
  case atStart =>
    refine ⟨0, by omega, rfl, ⟨⟨_, heap_alloc_last w _, size_madeCells _ _, fun j hj => absurd hj (by omega)⟩, bel_alloc (Below.refl _ _)⟩⟩
  case round =>
    obtain ⟨k, hk, rfl, hst⟩ := hrel
    have HST := Lib.hid hst
    obtain ⟨⟨cs, hrow, hcs, hvals⟩, hb⟩ := id hst
    by_cases hlt : k < xs.length
    · have h1 : xs[k]? = some xs[k] := List.getElem?_eq_getElem hlt
      have h2 : vs[k]? = some (vs[k]'(by omega)) := List.getElem?_eq_getElem (by omega)
      obtain ⟨x, hxe⟩ : ∃ x, xs[k] = x := ⟨_, rfl⟩
      obtain ⟨y, hye⟩ : ∃ y, (vs[k]'(by omega)) = y := ⟨_, rfl⟩
      rw [hxe] at h1
      rw [hye] at h2
      obtain ⟨b, off, rfl, hbl, q0⟩ := (HX.out.below hb).at_ h1
      obtain ⟨b2, off2, rfl, hbl2, p0⟩ := (HV.out.below hb).at_ h2
      have hkv : k < vs.length := by omega
      obtain ⟨u0, hu0⟩ := hst.cell (j := k * 2) (by omega)
      obtain ⟨u1, hu1⟩ := hst.cell (j := k * 2 + 1) (by omega)
      have hf := hst.frozen
      have HN := Lib.hid (hst.step hlt (zip_at h1 h2))
      clear hvals hxe hye hb hst hrow h1 h2
      go_wp2_with fail
      go_region
      go_wp2_with fail
      exact ⟨⟨k + 1, by omega, by go_num, HN.out⟩, by simp [intOf]; omega⟩
    · obtain rfl : k = xs.length := by omega
      clear hrow hvals
      go_wp2_with fail
      go_ret
      exact ⟨_, rfl, hst.done (by rw [List.length_zip]; omega) hl2, hb⟩

/-- The slice value v reads as the rows; it and they lie below block B. -/
def RdRw (w : World) (B : Nat) (v : Value) (rows : List (List Int)) : Prop := ∃ vs : List Value, Rd w B 1 v vs.length vs ∧ vs.length = rows.length ∧ ∀ (i : Nat) (row : List Int), rows[i]? = some row → ∃ u, vs[i]? = some u ∧ RdI w B u row
theorem RdRw.form {w : World} {B : Nat} {v : Value} {rows : List (List Int)} (h : RdRw w B v rows) : ∃ A c, v = .slice A rows.length c ∧ rows.length ≤ maxLen := by
  obtain ⟨vs, ⟨_, h2, A, c, rfl, hc, _⟩, he, _⟩ := h
  exact ⟨A, c, by rw [he], by omega⟩
theorem RdRw.below {w w' : World} {B : Nat} {v : Value} {rows : List (List Int)} (h : RdRw w B v rows) (hb : Below B w w') : RdRw w' B v rows := by
  obtain ⟨vs, h1, h2, h3⟩ := h
  refine ⟨vs, Rd.below h1 hb, h2, fun i row hr => ?_⟩
  obtain ⟨u, h4, h5⟩ := h3 i row hr
  exact ⟨u, h4, h5.below hb⟩
theorem RdRw.more {w : World} {B B' : Nat} {v : Value} {rows : List (List Int)} (h : RdRw w B v rows) (hB : B ≤ B') : RdRw w B' v rows := by
  obtain ⟨vs, h1, h2, h3⟩ := h
  refine ⟨vs, Rd.more h1 hB, h2, fun i row hr => ?_⟩
  obtain ⟨u, h4, h5⟩ := h3 i row hr
  exact ⟨u, h4, h5.more hB⟩
theorem RdRw.at_ {w : World} {B : Nat} {A : Option Addr} {n c : Nat} {rows : List (List Int)} (h : RdRw w B (.slice A n c) rows) {i : Nat} {row : List Int} (hr : rows[i]? = some row) :
    ∃ b off A' c', A = some ⟨b, off, none⟩ ∧ b < B ∧ w.cell? ⟨b, off + i, none⟩ = some (.slice A' row.length c') ∧ RdI w B (.slice A' row.length c') row := by
  obtain ⟨vs, ⟨_, _, A', c', he, _, h3⟩, h4, h5⟩ := h
  injection he with e1 e2 e3
  subst e1
  obtain ⟨b, off, rfl, hb, hcell⟩ := h3 (by have := (List.getElem?_eq_some_iff.1 hr).1; omega)
  obtain ⟨u, h6, h7⟩ := h5 i row hr
  obtain ⟨A2, c2, rfl, _⟩ := h7.form
  exact ⟨b, off, A2, c2, rfl, hb, hcell i _ h6, h7⟩
/-- A grid in order. -/
structure GridOk (xs ys : List Int) (rows : List (List Int)) : Prop where
  x0 : 0 < xs.length ∧ xs.length ≤ 16
  y0 : 0 < ys.length ∧ ys.length ≤ 16
  xl : ∀ n ∈ xs, -1000000 ≤ n ∧ n ≤ 1000000
  yl : ∀ n ∈ ys, -1000000 ≤ n ∧ n ≤ 1000000
  xu : ∀ (i : Nat) (p q : Int), xs[i]? = some p → xs[i + 1]? = some q → p < q
  yu : ∀ (i : Nat) (p q : Int), ys[i]? = some p → ys[i + 1]? = some q → p < q
  v0 : rows.length = xs.length
  vl : ∀ row ∈ rows, row.length = ys.length ∧ ∀ n ∈ row, -1000000 ≤ n ∧ n ≤ 1000000
/-- A grid in memory. -/
structure RdG (w : World) (B : Nat) (xv yv vv : Value) (xs ys : List Int) (rows : List (List Int)) : Prop where
  x : RdI w B xv xs
  y : RdI w B yv ys
  v : RdRw w B vv rows
theorem RdG.next {w w' : World} {xv yv vv : Value} {xs ys : List Int} {rows : List (List Int)} (h : RdG w w.heap.size xv yv vv xs ys rows) (hb : Below w.heap.size w w') : RdG w' w'.heap.size xv yv vv xs ys rows :=
  ⟨h.x.next hb, h.y.next hb, (h.v.below hb).more hb.size⟩

set_option maxRecDepth 100000 in
set_option maxHeartbeats 4000000 in
theorem checkGrid_any (xv yv vv : Value) (xs ys : List Int) (rows : List (List Int)) (w : World) (hrd : RdG w w.heap.size xv yv vv xs ys rows) (hg : GridOk xs ys rows) :
    Calls Tryd.prog 84 #[.agg #[xv, yv, vv]] w (IntB 0 w) := by
  obtain ⟨A, c, rfl, hcc, hml⟩ := hrd.x.form
  obtain ⟨A2, c2, rfl, hcc2, hml2⟩ := hrd.y.form
  obtain ⟨A3, c3, rfl, hml3⟩ := hrd.v.form
  obtain ⟨W0, hW0⟩ : ∃ W0, w.alloc (.cells #[.slice A xs.length c, .slice A2 ys.length c2, .slice A3 rows.length c3] 139) = W0 := ⟨_, rfl⟩
  have hs0 : W0.heap.size = w.heap.size + 1 := by rw [← hW0, World.size_alloc]
  have hb0 : Below w.heap.size w W0 := by rw [← hW0]; exact bel_alloc (Below.refl _ _)
  have hg0 : W0.heap[w.heap.size]? = some (.cells #[.slice A xs.length c, .slice A2 ys.length c2, .slice A3 rows.length c3] 139 (0, 0)) := by rw [← hW0]; exact heap_alloc_last w _
  have HRD := Lib.hid (hrd.next hb0)
  have HG := Lib.hid hg
  have HB0 := Lib.hid hb0
  have HG0 := Lib.hid hg0
  have HS0 := Lib.hid hs0
  obtain ⟨g0, g1⟩ := hg.x0
  obtain ⟨g2, g3⟩ := hg.y0
  have gv := hg.v0
  have n0 : ((xs.length : Int) == 0) = false := by rw [beq_eq_false_iff_ne]; omega
  have n1 : ((ys.length : Int) == 0) = false := by rw [beq_eq_false_iff_ne]; omega
  have n2 : decide (16 < (xs.length : Int)) = false := by rw [decide_eq_false_iff_not]; omega
  have n3 : decide (16 < (ys.length : Int)) = false := by rw [decide_eq_false_iff_not]; omega
  have n4 : ((rows.length : Int) != (xs.length : Int)) = false := by rw [bne_eq_false_iff_eq]; omega
  have c0 := cell_of_box (j := 0) hg0 rfl
  have c1 := cell_of_box (j := 1) hg0 rfl
  have c2' := cell_of_box (j := 2) hg0 rfl
  have GV := Lib.hid gv
  have hrows : rows.length ≤ 16 := by omega
  clear hrd hg hb0 hg0 hs0 gv
  go_enter Tryd.func84, Tryd.ntmps84
  go_wp2_with fail
  refine (checkAxis_any xs _ _ HRD.out.x HG.out.xl HG.out.xu).mono ?_
  rintro e w1 ⟨he, hb1⟩
  subst he
  have HB1 := Lib.hid hb1
  have hg1 := (hb1.block w.heap.size (by rw [HS0.out]; omega)).trans HG0.out
  have c0 := cell_of_box (j := 0) hg1 rfl
  have c1 := cell_of_box (j := 1) hg1 rfl
  have c2' := cell_of_box (j := 2) hg1 rfl
  have HR1 := Lib.hid (HRD.out.next hb1)
  have hsz1 : w.heap.size < w1.heap.size := by have := hb1.size; rw [HS0.out] at this; omega
  have HG1 := Lib.hid hg1
  clear hb1 hg1
  go_wp2_with fail
  refine (checkAxis_any ys _ _ HR1.out.y HG.out.yl HG.out.yu).mono ?_
  rintro e w2 ⟨he, hb2⟩
  subst he
  have hg2 := (hb2.block w.heap.size hsz1).trans HG1.out
  have c0 := cell_of_box (j := 0) hg2 rfl
  have c1 := cell_of_box (j := 1) hg2 rfl
  have c2' := cell_of_box (j := 2) hg2 rfl
  have HR2 := Lib.hid (HR1.out.next hb2)
  have HB2 := Lib.hid (HB0.out.trans ((HB1.out.mono (by rw [HS0.out]; omega)).trans (hb2.mono (by omega))))
  have hsz2 : w.heap.size < w2.heap.size := by have := hb2.size; omega
  clear hb2 hg2
  go_wp2_with fail
  go_loop [51] (fun i => ∃ k : Nat, k ≤ rows.length ∧ i = .int .i64 k) (fun i => rows.length - (intOf i).toNat)
  case atStart => exact ⟨0, by omega, rfl⟩
  case round =>
    obtain ⟨k, hk, rfl⟩ := hrel
    by_cases hlt : k < rows.length
    · have hx : rows[k]? = some rows[k] := List.getElem?_eq_getElem hlt
      obtain ⟨row, hxe⟩ : ∃ row, rows[k] = row := ⟨_, rfl⟩
      rw [hxe] at hx
      obtain ⟨b, off, A4, c4, rfl, hbl, q0, hrow⟩ := HR2.out.v.at_ hx
      obtain ⟨hrl, hrlim⟩ := HG.out.vl row (List.mem_of_getElem? hx)
      have HROW := Lib.hid hrow
      have HLIM := Lib.hid hrlim
      have HRL := Lib.hid hrl
      have n5 : ((row.length : Int) != (ys.length : Int)) = false := by rw [bne_eq_false_iff_eq]; omega
      have hr16 : row.length ≤ 16 := by omega
      clear hx hxe hrow hrlim hrl
      go_wp2_with fail
      go_loop [63] (fun i => ∃ m : Nat, m ≤ row.length ∧ i = .int .i64 m) (fun i => row.length - (intOf i).toNat)
      case atStart => exact ⟨0, by omega, rfl⟩
      case round =>
        obtain ⟨m, hm, rfl⟩ := hrel
        by_cases hlt2 : m < row.length
        · have hx : row[m]? = some row[m] := List.getElem?_eq_getElem hlt2
          obtain ⟨x, hxe⟩ : ∃ x, row[m] = x := ⟨_, rfl⟩
          rw [hxe] at hx
          obtain ⟨b2, off2, rfl, hbl2, p0⟩ := HROW.out.at_ hx
          obtain ⟨m1, m2⟩ := HLIM.out x (List.mem_of_getElem? hx)
          clear hx hxe
          go_wp2_with fail
          refine (inLimit_any x _ m1 m2).mono ?_
          rintro e w1 ⟨rfl, rfl⟩
          go_wp2_with fail
          exact ⟨⟨m + 1, by omega, by go_num⟩, by simp [intOf]; omega⟩
        · go_wp2_with fail
          exact ⟨⟨k + 1, by omega, by go_num⟩, by simp [intOf]; omega⟩
    · go_wp2_with fail
      go_ret
      exact ⟨rfl, HB2.out⟩
end Go.Proofs.YthineckpociomaaDoor
