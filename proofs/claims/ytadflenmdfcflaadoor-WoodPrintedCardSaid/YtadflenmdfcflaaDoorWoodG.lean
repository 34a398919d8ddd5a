/-
  The contract of wood.statement.
-/
import Derived.Test.YtadflenmdfcflaaDoorWoodE
import Derived.Test.YtadflenmdfcflaaDoorWoodF
namespace Go.Proofs.YtadflenmdfcflaaDoor
open Go.RowKit Saw

def wordCells : List Value := wordsL.map fun s => .string (str s)
theorem words_index (i : Nat) (h : i < 12) : ∃ s, wordsL[i]? = some s ∧ ∀ W, (Instr.index 60 (.agg wordCells.toArray) (.int .i64 i)).run Tryd.prog W = .ok (.string (str s)) W := by
  match i, h with
  | 0, _ => exact ⟨_, rfl, fun _ => by kernel_rfl⟩
  | 1, _ => exact ⟨_, rfl, fun _ => by kernel_rfl⟩
  | 2, _ => exact ⟨_, rfl, fun _ => by kernel_rfl⟩
  | 3, _ => exact ⟨_, rfl, fun _ => by kernel_rfl⟩
  | 4, _ => exact ⟨_, rfl, fun _ => by kernel_rfl⟩
  | 5, _ => exact ⟨_, rfl, fun _ => by kernel_rfl⟩
  | 6, _ => exact ⟨_, rfl, fun _ => by kernel_rfl⟩
  | 7, _ => exact ⟨_, rfl, fun _ => by kernel_rfl⟩
  | 8, _ => exact ⟨_, rfl, fun _ => by kernel_rfl⟩
  | 9, _ => exact ⟨_, rfl, fun _ => by kernel_rfl⟩
  | 10, _ => exact ⟨_, rfl, fun _ => by kernel_rfl⟩
  | 11, _ => exact ⟨_, rfl, fun _ => by kernel_rfl⟩

section
variable {w w' : World} {g rb : Nat} {o : Obj}
theorem hp_gb (h : w.heap[g]? = some o) (hg : w.grownBy w' (some rb)) (hne : g ≠ rb) : w'.heap[g]? = some o :=
  (hg.block g (Array.getElem?_eq_some_iff.1 h).1 (fun e => hne (by injection e))).trans h
theorem hp_alloc (h : w.heap[g]? = some o) (o' : Obj) : (w.alloc o').heap[g]? = some o := (Below.heap_alloc _ _ _ (Array.getElem?_eq_some_iff.1 h).1).trans h
theorem hp_set (h : w.heap[g]? = some o) {g' i : Nat} (hne : g ≠ g') (v : Value) : (w.setCell ⟨g', i, none⟩ v).heap[g]? = some o := (Below.heap_setCell _ _ _ _ hne).trans h
theorem hp_lt (h : w.heap[g]? = some o) : g < w.heap.size := (Array.getElem?_eq_some_iff.1 h).1
end
def intsC (l : List Int) : List Value := l.map (Value.int .i64)
theorem intsC_set (l : List Int) (i : Nat) (n : Int) : (intsC l).toArray.setIfInBounds i (.int .i64 n) = (intsC (l.set i n)).toArray := by
  rw [intsC, intsC, List.setIfInBounds_toArray, List.map_set]
theorem intsC_at (l : List Int) (i : Nat) (h : i < l.length) : (intsC l)[i]? = some (.int .i64 l[i]) := by
  rw [intsC, List.getElem?_map, List.getElem?_eq_getElem h]; rfl

def StmtPost (w : World) (rb : Nat) (lv fv : Value) (r : Sp × Nat × Bool) (e : Ending) (w' : World) : Prop :=
  e = .returned (.tuple #[.agg (spCells r.1).toArray, .bool r.2.2]) ∧ IsRdr w' rb lv r.2.1 fv ∧ w.grownBy w' (some rb)

/-- What holds ahead of the loop's round number i. -/
def StRel (w : World) (rb : Nat) (lv fv : Value) (xs : List Lx) (k g2 g4 g6 : Nat) (c2 : Array Value) (R : List Int × Nat × Bool) (i : Nat) (wr : World) : Prop :=
  ∃ (arr ns : List Int), i ≤ 12 ∧ arr.length = 12 ∧ arr.take i = ns ∧ k + 2 + 2 * i < xs.length ∧ readNums xs (wordsL.drop i) (k + 2 + 2 * i) ns = R ∧ IsRdr wr rb lv (k + 2 + 2 * i) fv ∧ w.grownBy wr (some rb) ∧
    wr.heap[g2]? = some (.cells c2 26 (0, 0)) ∧ wr.heap[g4]? = some (.cells (lxCells (lxAt xs (k + 1))).toArray 73 (0, 0)) ∧ wr.heap[g6]? = some (.cells (intsC arr).toArray 48 (0, 0))

theorem readNums_step {xs : List Lx} {i k : Nat} {s : List UInt8} {ns : List Int} {R : List Int × Nat × Bool} (hs : wordsL[i]? = some s) (h : readNums xs (wordsL.drop i) k ns = R) :
    (if lxIs (lxAt xs k) 1 s then (if (lxAt xs (k + 1)).kind == 2 then readNums xs (wordsL.drop (i + 1)) (k + 2) (ns ++ [(lxAt xs (k + 1)).num]) else (ns, k + 1, false)) else (ns, k, false)) = R := by
  have hk := List.getElem?_eq_some_iff.1 hs
  rw [List.drop_eq_getElem_cons hk.1, hk.2, readNums] at h
  exact h

set_option maxRecDepth 100000 in
set_option maxHeartbeats 1000000 in
theorem statement_any (w : World) (rb : Nat) (lv fv : Value) (k : Nat) (xs : List Lx) (hr : IsRdr w rb lv k fv) (hl : Rd w rb 4 lv xs.length (lxsCells xs)) (hk : k < xs.length) (hxl : xs.length ≤ 100000) (hend : LxEnds xs)
    (hwd : w.rangeAt 0 0 wordCells) (hg0 : 0 < rb) :
    Calls Tryd.prog 43 #[.pointer (some ⟨rb, 0, none⟩)] w (StmtPost w rb lv fv (stmtP xs k)) := by
  obtain ⟨r, hrr⟩ : ∃ r, stmtP xs k = r := ⟨_, rfl⟩
  rw [hrr]
  have hrb : rb < w.heap.size := hp_lt hr
  have hx0 := lxAt_some hk
  have HRR := Lib.hid hrr
  have HR := Lib.hid hr
  have HL := Lib.hid hl
  have HEND := Lib.hid hend
  have HWD := Lib.hid hwd
  have HX0 := Lib.hid hx0
  clear hrr hr hl hend hwd hx0
  go_enter Tryd.func43, Tryd.ntmps43
  go_wp2_with ((with_reducible refine sp_alloc ?_); intro c2 H2)
  refine (skip_rdr _ rb lv fv k xs _ 1 _ (HR.out.alloc _) (HL.out.below (B := rb) ((Below.refl rb w).alloc (by omega) _)) HX0.out (by omega)).mono ?_
  rintro e w1 ⟨he, hr1, hg1⟩
  rw [show bts ⟨#[115, 112, 101, 99, 105, 101, 115]⟩ = speciesW from rfl] at he hr1
  have hgw1 : w.grownBy w1 (some rb) := gb_trans (gb_alloc gb_refl _) hg1
  have hp2 : w1.heap[w.heap.size]? = some (.cells c2 26 (0, 0)) := hp_gb (heap_alloc_last w _) hg1 (by omega)
  have HP2 := Lib.hid hp2
  have HGW1 := Lib.hid hgw1
  have hsz1 : w.heap.size < w1.heap.size := hp_lt hp2
  clear hg1 hp2 hgw1
  cases hm : lxIs (lxAt xs k) 1 speciesW with
  | false =>
    rw [hm] at he hr1
    subst he
    have hrz : r = (Sp.zero, k, false) := by rw [← HRR.out, stmtP, if_neg (by rw [hm]; decide)]
    subst hrz
    have HR1 := Lib.hid hr1
    clear hr1 hm
    go_wp2_with (first
          | ((with_reducible refine wpList_buildAs (t := 26) (spCells Sp.zero).toArray ?hf ?_); (case hf => kernel_rfl); intro arr harr; have HARR := Lib.hid harr; clear harr)
          | ((with_reducible refine sp_put w.heap.size Sp.zero ?hx ?hy HP2.out H2 ?_); (case hx => rfl); (case hy => (rw [← HARR.out]; rfl))))
    refine bodyPost_ret (v := .tuple #[.agg (spCells Sp.zero).toArray, .bool false]) ?_ rfl ⟨rfl, HR1.out.row (by omega) _, gb_setRow HGW1.out (.inr (Nat.le_refl _)) _⟩
    exact results_cell2 Tryd.results43 _ _ w.heap.size 0 (spCells Sp.zero) rfl (rangeAt_block (setRow_heap _ _ _ _ _ _ HP2.out)) Tryd.underlying26 rfl sp_info (.bool false) rfl
  | true =>
    rw [hm] at he hr1
    subst he
    have hk1 : k + 1 < xs.length := lxEnds_next HEND.out hk (by rw [lxIs_kind hm]; decide)
    have HM := Lib.hid hm
    have HR1 := Lib.hid hr1
    clear hr1 hm
    go_wp2_with fail
    refine (take_rdr _ rb lv fv (k + 1) xs _ 1 HR1.out (HL.out.gb HGW1.out (Nat.le_refl _) (by omega)) (lxAt_some hk1) (by omega)).mono ?_
    rintro e w2 ⟨he, hr2, hg2⟩
    have HGW2 := Lib.hid (gb_trans HGW1.out hg2)
    have HP22 := Lib.hid (hp_gb HP2.out hg2 (by omega))
    have hsz2 : w.heap.size < w2.heap.size := hp_lt HP22.out
    clear hg2
    cases hm2 : ((lxAt xs (k + 1)).kind == 1) with
    | false =>
      rw [hm2] at he hr2
      have he' : e = .returned (.tuple #[.agg #[.int .i64 0, .string ⟨#[]⟩, .int .i64 0, .int .i64 0], .bool false]) := he
      subst he'
      have hrz : r = (Sp.zero, k + 1, false) := by rw [← HRR.out, stmtP, if_pos HM.out, if_neg (by rw [hm2]; decide)]
      subst hrz
      have HR2 := Lib.hid (show IsRdr w2 rb lv (k + 1) fv from hr2)
      clear hr2 hm2 he
      go_wp2_with (first
          | ((with_reducible refine wpList_buildAs (t := 26) (spCells Sp.zero).toArray ?hf ?_); (case hf => kernel_rfl); intro arr harr; have HARR := Lib.hid harr; clear harr)
          | ((with_reducible refine sp_put w.heap.size Sp.zero ?hx ?hy (hp_alloc HP22.out _) H2 ?_); (case hx => rfl); (case hy => (rw [← HARR.out]; rfl))))
      refine bodyPost_ret (v := .tuple #[.agg (spCells Sp.zero).toArray, .bool false]) ?_ rfl ⟨rfl, (HR2.out.alloc _).row (by omega) _, gb_setRow (gb_alloc HGW2.out _) (.inr (Nat.le_refl _)) _⟩
      exact results_cell2 Tryd.results43 _ _ w.heap.size 0 (spCells Sp.zero) rfl (rangeAt_block (setRow_heap _ _ _ _ _ _ (hp_alloc HP22.out _))) Tryd.underlying26 rfl sp_info (.bool false) rfl
    | true =>
      rw [hm2] at he hr2
      obtain ⟨x1, hx1⟩ : ∃ x1, lxAt xs (k + 1) = x1 := ⟨_, rfl⟩
      rw [hx1] at he
      have he' : e = .returned (.tuple #[.agg #[.int .i64 x1.kind, .string (str x1.text), .int .i64 x1.num, .int .i64 x1.off], .bool true]) := he
      subst he'
      have hk2 : k + 1 + 1 < xs.length := lxEnds_next HEND.out hk1 (by rw [beq_iff_eq.1 hm2]; decide)
      have HR2 := Lib.hid (show IsRdr w2 rb lv (k + 1 + 1) fv from hr2)
      have HX1 := Lib.hid hx1
      have HM2 := Lib.hid hm2
      clear hr2 he hx1 hm2
      have hrg0 : w2.rangeAt 0 0 wordCells := fun j v hv => (World.cell?_of_block (a := ⟨0, 0 + j, none⟩) (HGW2.out.block 0 (by omega) (fun e => by injection e; omega))).trans (HWD.out j v hv)
      have HRG0 := Lib.hid (rangeAt_alloc (by rw [World.size_alloc]; omega) (rangeAt_alloc (w := w2) (by omega) hrg0 (.cells #[.int .i64 x1.kind, .string (str x1.text), .int .i64 x1.num, .int .i64 x1.off] 73)) (.cells (intsC (List.replicate 12 0)).toArray 48))
      clear hrg0
      obtain ⟨R, hR⟩ : ∃ R, readNums xs wordsL (k + 2) [] = R := ⟨_, rfl⟩
      have HRD := Lib.hid hR
      clear hR
      go_wp2_with (first
        | ((with_reducible refine wpList_allocAs (t := 48) (intsC (List.replicate 12 0)).toArray ?hf ?_); (case hf => kernel_rfl); intro c hc; subst hc)
        | ((with_reducible refine wpList_loadAs (t := 60) 0 0 wordCells ?hx HRG0.out Tryd.underlying60 ?hd ?hi ?_); (case hx => rfl); (case hd => rfl); (case hi => kernel_rfl)))
      go_loopw [24] (fun v wr => ∃ i : Nat, v = .int .i64 i ∧ StRel w rb lv fv xs k w.heap.size w2.heap.size (w2.heap.size + 1) c2 R i wr) (fun v _ => 12 - (intOf v).toNat)
      case atStart =>
        refine ⟨0, rfl, List.replicate 12 0, [], by omega, rfl, rfl, by omega, HRD.out, (HR2.out.alloc _).alloc _, gb_alloc (gb_alloc HGW2.out _) _, hp_alloc (hp_alloc HP22.out _) _, ?_, ?_⟩
        · refine hp_alloc ?_ _
          rw [HX1.out]
          exact heap_alloc_last w2 _
        · have := heap_alloc_last (w2.alloc (.cells #[.int .i64 x1.kind, .string (str x1.text), .int .i64 x1.num, .int .i64 x1.off] 73)) (.cells (intsC (List.replicate 12 0)).toArray 48)
          rw [World.size_alloc] at this
          exact this
      case round =>
        obtain ⟨i, rfl, arr, ns, hi, hal, hat, hki, hrn, hri, hgi, hp2, hp4, hp6⟩ := hrel
        have HRI := Lib.hid hri
        have HGI := Lib.hid hgi
        have HQ2 := Lib.hid hp2
        have HQ4 := Lib.hid hp4
        have HQ6 := Lib.hid hp6
        have HAT := Lib.hid hat
        have hrs : rb < wr.heap.size := hp_lt hri
        have hs6 : w2.heap.size + 1 < wr.heap.size := hp_lt hp6
        clear hri hgi hp2 hp4 hp6 hat
        by_cases hlt : i < 12
        · obtain ⟨s, hws, hix⟩ := words_index i hlt
          have HST := Lib.hid (readNums_step hws hrn)
          have HAL := Lib.hid hal
          clear hrn hws hal
          go_wp2_with fail
          refine (skip_rdr _ rb lv fv _ xs _ 1 _ HRI.out (HL.out.gb HGI.out (Nat.le_refl _) (by omega)) (lxAt_some hki) (by omega)).mono ?_
          rintro e w3 ⟨he, hr3, hg3⟩
          rw [bts_str] at he hr3
          have HG3 := Lib.hid (gb_trans HGI.out hg3)
          have HP32 := Lib.hid (hp_gb HQ2.out hg3 (by omega))
          have HP34 := Lib.hid (hp_gb HQ4.out hg3 (by omega))
          have HP36 := Lib.hid (hp_gb HQ6.out hg3 (by omega))
          clear hg3 hix
          cases hm3 : lxIs (lxAt xs (k + 2 + 2 * i)) 1 s with
          | false =>
            rw [hm3] at he hr3
            subst he
            have HR3 := Lib.hid (show IsRdr w3 rb lv (k + 2 + 2 * i) fv from hr3)
            have hRz : R = (ns, k + 2 + 2 * i, false) := by rw [← HST.out, if_neg (by rw [hm3]; decide)]
            have hrz : r = (Sp.zero, k + 2 + 2 * i, false) := by rw [← HRR.out, stmtP, if_pos HM.out, if_pos HM2.out, HRD.out, hRz]; rfl
            subst hrz
            clear hr3 hm3 hRz
            go_wp2_with (first
          | ((with_reducible refine wpList_buildAs (t := 26) (spCells Sp.zero).toArray ?hf ?_); (case hf => kernel_rfl); intro arr harr; have HARR := Lib.hid harr; clear harr)
          | ((with_reducible refine sp_put w.heap.size Sp.zero ?hx ?hy HP32.out H2 ?_); (case hx => rfl); (case hy => (rw [← HARR.out]; rfl))))
            refine bodyPost_ret (v := .tuple #[.agg (spCells Sp.zero).toArray, .bool false]) ?_ rfl ⟨rfl, HR3.out.row (by omega) _, gb_setRow HG3.out (.inr (Nat.le_refl _)) _⟩
            exact results_cell2 Tryd.results43 _ _ w.heap.size 0 (spCells Sp.zero) rfl (rangeAt_block (setRow_heap _ _ _ _ _ _ HP32.out)) Tryd.underlying26 rfl sp_info (.bool false) rfl
          | true =>
            rw [hm3] at he hr3
            subst he
            have HR3 := Lib.hid (show IsRdr w3 rb lv (k + 2 + 2 * i + 1) fv from hr3)
            have hk3 : k + 2 + 2 * i + 1 < xs.length := lxEnds_next HEND.out hki (by rw [lxIs_kind hm3]; decide)
            have HM3 := Lib.hid hm3
            clear hr3 hm3
            go_wp2_with fail
            refine (take_rdr _ rb lv fv _ xs _ 2 HR3.out (HL.out.gb HG3.out (Nat.le_refl _) (by omega)) (lxAt_some hk3) (by omega)).mono ?_
            rintro e w4 ⟨he, hr4, hg4⟩
            have HG4 := Lib.hid (gb_trans HG3.out hg4)
            have HP42 := Lib.hid (hp_gb HP32.out hg4 (by omega))
            have HP44 := Lib.hid (hp_gb HP34.out hg4 (by omega))
            have HP46 := Lib.hid (hp_gb HP36.out hg4 (by omega))
            have hs46 : w2.heap.size + 1 < w4.heap.size := hp_lt HP46.out
            clear hg4
            cases hm4 : ((lxAt xs (k + 2 + 2 * i + 1)).kind == 2) with
            | false =>
              rw [hm4] at he hr4
              have he' : e = .returned (.tuple #[.agg #[.int .i64 0, .string ⟨#[]⟩, .int .i64 0, .int .i64 0], .bool false]) := he
              subst he'
              have HR4 := Lib.hid (show IsRdr w4 rb lv (k + 2 + 2 * i + 1) fv from hr4)
              have hRz : R = (ns, k + 2 + 2 * i + 1, false) := by rw [← HST.out, if_pos HM3.out, if_neg (by rw [hm4]; decide)]
              have hrz : r = (Sp.zero, k + 2 + 2 * i + 1, false) := by rw [← HRR.out, stmtP, if_pos HM.out, if_pos HM2.out, HRD.out, hRz]; rfl
              subst hrz
              clear hr4 hm4 hRz he
              go_wp2_with (first
          | ((with_reducible refine wpList_buildAs (t := 26) (spCells Sp.zero).toArray ?hf ?_); (case hf => kernel_rfl); intro arr harr; have HARR := Lib.hid harr; clear harr)
          | ((with_reducible refine sp_put w.heap.size Sp.zero ?hx ?hy (hp_alloc HP42.out _) H2 ?_); (case hx => rfl); (case hy => (rw [← HARR.out]; rfl))))
              refine bodyPost_ret (v := .tuple #[.agg (spCells Sp.zero).toArray, .bool false]) ?_ rfl ⟨rfl, (HR4.out.alloc _).row (by omega) _, gb_setRow (gb_alloc HG4.out _) (.inr (Nat.le_refl _)) _⟩
              exact results_cell2 Tryd.results43 _ _ w.heap.size 0 (spCells Sp.zero) rfl (rangeAt_block (setRow_heap _ _ _ _ _ _ (hp_alloc HP42.out _))) Tryd.underlying26 rfl sp_info (.bool false) rfl
            | true =>
              rw [hm4] at he hr4
              obtain ⟨x2, hx2⟩ : ∃ x2, lxAt xs (k + 2 + 2 * i + 1) = x2 := ⟨_, rfl⟩
              rw [hx2] at he
              have he' : e = .returned (.tuple #[.agg #[.int .i64 x2.kind, .string (str x2.text), .int .i64 x2.num, .int .i64 x2.off], .bool true]) := he
              subst he'
              have hk4 : k + 2 + 2 * i + 1 + 1 < xs.length := lxEnds_next HEND.out hk3 (by rw [beq_iff_eq.1 hm4]; decide)
              have HR4 := Lib.hid (show IsRdr w4 rb lv (k + 2 + 2 * i + 1 + 1) fv from hr4)
              have HN := Lib.hid (show readNums xs (wordsL.drop (i + 1)) (k + 2 + 2 * i + 2) (ns ++ [x2.num]) = R by rw [← HST.out, if_pos HM3.out, if_pos hm4, hx2])
              have hia : i < arr.length := by rw [HAL.out]; exact hlt
              have hc6 : w4.cell? ⟨w2.heap.size + 1, i, none⟩ = some (.int .i64 arr[i]) := by
                rw [cell_of_row w4 _ i _ _ (0, 0) HP46.out]
                simpa using intsC_at arr i hia
              have hf6 : w4.frozen? ⟨w2.heap.size + 1, i, none⟩ = false := by simp [World.frozen?, HP46.out]
              clear hr4 he hx2 hm4
              go_wp2_with fail
              refine ⟨⟨i + 1, by go_num, arr.set i x2.num, ns ++ [x2.num], by omega, by rw [List.length_set]; exact HAL.out, ?_, by omega, ?_, ?_, gb_alloc (gb_setOther HG4.out (by omega) _) _, hp_alloc (hp_set HP42.out (by omega) _) _, hp_alloc (hp_set HP44.out (by omega) _) _, hp_alloc ?_ _⟩, by simp [intOf]; omega⟩
              · rw [List.take_add_one, List.take_set_of_le (Nat.le_refl _), HAT.out, List.getElem?_set_self hia]; rfl
              · have := HN.out
                rw [show k + 2 + 2 * (i + 1) = k + 2 + 2 * i + 2 by omega]; exact this
              · have := HR4.out
                rw [show k + 2 + 2 * (i + 1) = k + 2 + 2 * i + 1 + 1 by omega]
                exact IsRdr.alloc (hp_set this (by omega) _) _
              · rw [setCell_eq_setRow w4 _ i _ _ (0, 0) _ HP46.out, intsC_set]
                exact setRow_heap _ _ _ _ _ _ HP46.out
        · obtain rfl : i = 12 := by omega
          have hns : ns = arr := by rw [← HAT.out, List.take_of_length_le (by omega)]
          subst hns
          have hRe : R = (ns, k + 2 + 2 * 12, true) := hrn.symm
          match ns, hal with
          | [a0, a1, a2, a3, a4, a5, a6, a7, a8, a9, a10, a11], _ =>
            obtain ⟨y, hy⟩ : ∃ y, mkSp x1.text [a0, a1, a2, a3, a4, a5, a6, a7, a8, a9, a10, a11] = y := ⟨_, rfl⟩
            have hn4 : wr.cell? ⟨w2.heap.size, 1, none⟩ = some (.string (str x1.text)) := by
              rw [cell_of_row wr _ 1 _ _ (0, 0) HQ4.out, HX1.out]; rfl
            have HR6 := Lib.hid (rangeAt_block HQ6.out)
            have HRE := Lib.hid hRe
            have HY := Lib.hid hy
            clear hrn hRe HAT hy
            go_wp2_with ((with_reducible refine wpList_loadAs (t := 48) (w2.heap.size + 1) 0 (intsC [a0, a1, a2, a3, a4, a5, a6, a7, a8, a9, a10, a11]) ?hx HR6.out Tryd.underlying48 ?hd ?hi ?_); (case hx => rfl); (case hd => rfl); (case hi => kernel_rfl))
            refine (species_any (mkSp x1.text [a0, a1, a2, a3, a4, a5, a6, a7, a8, a9, a10, a11]) _).mono ?_
            rintro e w5 ⟨he, hb5⟩
            rw [HY.out] at he
            subst he
            have HG5 := Lib.hid (gb_below HGI.out hb5)
            have HR5 := Lib.hid (HRI.out.below hb5 hrs)
            have HP5 := Lib.hid ((hb5.block _ (hp_lt HQ2.out)).trans HQ2.out)
            clear hb5
            go_wp2_with fail
            refine (skip_rdr _ rb lv fv _ xs _ 3 _ HR5.out (HL.out.gb HG5.out (Nat.le_refl _) (by omega)) (lxAt_some hki) (by omega)).mono ?_
            rintro e w6 ⟨he, hr6, hg6⟩
            rw [show bts ⟨#[59]⟩ = [59] from rfl] at he hr6
            have HG6 := Lib.hid (gb_trans HG5.out hg6)
            have HP6 := Lib.hid (hp_gb HP5.out hg6 (by omega))
            have hrz : r = (y, (if lxIs (lxAt xs (k + 2 + 2 * 12)) 3 [59] then k + 2 + 2 * 12 + 1 else k + 2 + 2 * 12), lxIs (lxAt xs (k + 2 + 2 * 12)) 3 [59]) := by
              rw [← HRR.out, stmtP, if_pos HM.out, if_pos HM2.out, HRD.out, HRE.out, if_pos rfl, HX1.out, HY.out]
            obtain ⟨m, hm6⟩ : ∃ m, lxIs (lxAt xs (k + 2 + 2 * 12)) 3 [59] = m := ⟨_, rfl⟩
            rw [hm6] at he hr6 hrz
            subst he
            subst hrz
            have HR6' := Lib.hid hr6
            clear hg6 hr6 hm6
            cases m with
            | true =>
              go_wp2_with ((with_reducible refine sp_put w.heap.size y ?hx ?hy HP6.out H2 ?_); (case hx => rfl); (case hy => rfl))
              refine bodyPost_ret (v := .tuple #[.agg (spCells y).toArray, .bool true]) ?_ rfl ⟨rfl, HR6'.out.row (g := w.heap.size) (by omega) _, gb_setRow HG6.out (.inr (Nat.le_refl _)) _⟩
              exact results_cell2 Tryd.results43 _ _ w.heap.size 0 (spCells y) rfl (rangeAt_block (setRow_heap _ _ _ _ _ _ HP6.out)) Tryd.underlying26 rfl sp_info (.bool true) rfl
            | false =>
              go_wp2_with ((with_reducible refine sp_put w.heap.size y ?hx ?hy HP6.out H2 ?_); (case hx => rfl); (case hy => rfl))
              refine bodyPost_ret (v := .tuple #[.agg (spCells y).toArray, .bool false]) ?_ rfl ⟨rfl, HR6'.out.row (g := w.heap.size) (by omega) _, gb_setRow HG6.out (.inr (Nat.le_refl _)) _⟩
              exact results_cell2 Tryd.results43 _ _ w.heap.size 0 (spCells y) rfl (rangeAt_block (setRow_heap _ _ _ _ _ _ HP6.out)) Tryd.underlying26 rfl sp_info (.bool false) rfl

end Go.Proofs.YtadflenmdfcflaaDoor
