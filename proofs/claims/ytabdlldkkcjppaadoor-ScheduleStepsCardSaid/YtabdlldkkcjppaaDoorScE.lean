/-
  The contract of slices.Clone of stages.
  The contract of schedule.Find.
  The contract of schedule.valid.
-/
import Derived.Test.YtabdlldkkcjppaaDoorScA
import Derived.Test.YtabdlldkkcjppaaDoorAppRow
import Derived.Lib.BufferMore
import Derived.OwnWalk
import Derived.Deep.RegionHeld3
namespace Go.Proofs.YtabdlldkkcjppaaDoor
open Go.RowKit Saw

theorem info_Stg : (Tryd.prog.info? 52).map (fun i => (i.zero, i.size, i.bytes)) = some (some (.agg #[.int .i64 0, .int .i64 0, .int .i64 0, .int .i64 0]), 4, 32) := by kernel_rfl
theorem mem_stg (l : List Stg) : ∀ u ∈ stgsCells l, u.oneCell' = true := by
  intro u hu
  obtain ⟨x, _, hx⟩ := List.mem_flatMap.1 hu
  exact stg_mem x u hx

def ClonePost (l : List Stg) (w : World) (e : Ending) (w' : World) : Prop := ∃ A c, e = .returned (.slice A l.length c) ∧ w'.ownsRow w.heap.size 52 4 (.slice A l.length c) l.length (stgsCells l) ∧ Below w.heap.size w w'

set_option maxRecDepth 100000 in
set_option maxHeartbeats 1000000 in
theorem clone_any (l : List Stg) (A : Option Addr) (c : Nat) (w : World) (hrd : RdSt w w.heap.size (.slice A l.length c) l) (hle : l.length ≤ 1000000) :
    Calls Tryd.prog 31 #[.slice A l.length c] w (ClonePost l w) := by
  cases A with
  | none =>
    have hl : l = [] := by
      cases l with
      | nil => rfl
      | cons x r => obtain ⟨b, off, h, _⟩ := RdSt.range hrd (i := 0) rfl; cases h
    subst hl
    have hnil : ∀ W, (binOp .eql 22 (.slice none 0 c) (.slice none 0 0)).run Tryd.prog W = .ok (.bool true) W := fun W => Lib.run_eql_slice_nil_nil W _ _ Tryd.underlying22
    rw [List.length_nil]
    go_enter Tryd.func31, Tryd.ntmps31
    go_wp2_with fail
    go_ret
    exact ⟨none, 0, rfl, ⟨rfl, .inl ⟨rfl, rfl⟩⟩, Below.refl _ _⟩
  | some a =>
    have HRD := Lib.hid hrd
    clear hrd
    have hnil : ∀ W, (binOp .eql 22 (.slice (some a) l.length c) (.slice none 0 0)).run Tryd.prog W = .ok (.bool false) W := fun W => Lib.run_eql_slice_some_nil W _ _ _ Tryd.underlying22
    obtain ⟨i0, hi0, hq0, hq1, hq2⟩ := info_parts info_Stg
    have HX0 := Lib.hid ((Below.refl w.heap.size w).alloc (Nat.le_refl _) (.cells #[] 52))
    have HOWN0 := Lib.hid (show (w.alloc (.cells #[] 52)).ownsRow w.heap.size 52 4 (.slice (some ⟨w.heap.size, 0, none⟩) 0 0) 0 [] from ownsRow_new (cs := []) (Nat.le_refl _) rfl (by decide))
    have HL := Lib.hid hle
    clear hle
    go_enter Tryd.func31, Tryd.ntmps31
    go_wp2_with ((refine wpList_append_rows _ rfl _ _ 22 rfl w.heap.size 52 i0 _ 4 32 Tryd.underlying22 hi0 hq0 hq1 hq2 rfl (by omega) _ 0 [] rfl HOWN0.out _ rfl l.length _ (stgsCells l) (HRD.out.next HX0.out) (mem_stg l) (by have h9 := HL.out; simp only [maxLen]; omega) (by have h9 := HL.out; omega) HX0.out.size ?_); intro v5 w5 hown5 hg5; have HOWN5 := Lib.hid hown5; have HB5 := Lib.hid (HX0.out.grown hg5 HX0.out.size (fun g hg => by have h9 : some w.heap.size = some g := hg; injection h9 with h9; omega)); clear hown5 hg5)
    go_ret
    have ho5 : w5.ownsRow w.heap.size 52 4 v5 l.length (stgsCells l) := by have h9 := HOWN5.out; rw [Nat.zero_add, List.nil_append] at h9; exact h9
    obtain ⟨A5, c5, rfl, _, _⟩ := RdSt.form (Rd.of_own ho5)
    exact ⟨A5, c5, rfl, ho5, HB5.out⟩

end Go.Proofs.YtabdlldkkcjppaaDoor

namespace Saw
theorem findSc_drop {l : List Sc} {k : Nat} {x : Sc} {nm : List UInt8} {r : Option Sc} (hx : l[k]? = some x) (h : findSc (l.drop k) nm = r) :
    ((x.name == nm) = true → r = some x) ∧ ((x.name == nm) = false → findSc (l.drop (k + 1)) nm = r) := by
  obtain ⟨hk, hn⟩ := List.getElem?_eq_some_iff.1 hx
  rw [List.drop_eq_getElem_cons hk, hn, findSc, List.find?_cons] at h
  refine ⟨fun he => ?_, fun he => ?_⟩
  · rw [he] at h; exact h.symm
  · rw [he] at h; exact h
end Saw
namespace Go.Proofs.YtabdlldkkcjppaaDoor
open Go.RowKit Saw

def FindScPost (r : Option Sc) (w : World) (e : Ending) (w' : World) : Prop := ∃ x A c, r.getD Sc.zero = x ∧ e = .returned (.tuple #[.agg #[.string (str x.name), .int .i64 x.ramp, .slice A x.stages.length c], .bool r.isSome]) ∧ RdSt w' w'.heap.size (.slice A x.stages.length c) x.stages ∧ Below w.heap.size w w'
/-- The block of a schedule. -/
def IsSc (w : World) (g : Nat) (x : Sc) (v : Value) : Prop := w.heap[g]? = some (.cells #[.string (str x.name), .int .i64 x.ramp, v] 24 (0, 0))
theorem IsSc.cells {w : World} {g : Nat} {x : Sc} {v : Value} (h : IsSc w g x v) : w.cell? ⟨g, 0, none⟩ = some (.string (str x.name)) ∧ w.cell? ⟨g, 1, none⟩ = some (.int .i64 x.ramp) ∧ w.cell? ⟨g, 2, none⟩ = some v ∧ w.frozen? ⟨g, 0, none⟩ = false ∧ w.frozen? ⟨g, 1, none⟩ = false ∧ w.frozen? ⟨g, 2, none⟩ = false ∧ g < w.heap.size := by
  refine ⟨cell_of_box h rfl, cell_of_box h rfl, cell_of_box h rfl, ?_, ?_, ?_, (Array.getElem?_eq_some_iff.1 h).1⟩ <;> simp [World.frozen?, show w.heap[g]? = _ from h]
theorem IsSc.alloc {w : World} {g : Nat} {x : Sc} {v : Value} (h : IsSc w g x v) (o : Obj) : IsSc (w.alloc o) g x v := (Below.heap_alloc w o g (Array.getElem?_eq_some_iff.1 h).1).trans h
theorem IsSc.below {w w' : World} {g B : Nat} {x : Sc} {v : Value} (h : IsSc w g x v) (hb : Below B w w') (hB : g < B) : IsSc w' g x v := (hb.block g hB).trans h

theorem IsSc.put {w : World} {g : Nat} {x : Sc} {v : Value} (h : IsSc w g x v) (y : Sc) (u : Value) : IsSc (((w.setCell ⟨g, 0, none⟩ (.string (str y.name))).setCell ⟨g, 1, none⟩ (.int .i64 y.ramp)).setCell ⟨g, 2, none⟩ u) g y u := by
  unfold IsSc at h ⊢
  have h1 : (w.setCell ⟨g, 0, none⟩ (.string (str y.name))).heap[g]? = some (.cells #[.string (str y.name), .int .i64 x.ramp, v] 24 (0, 0)) := by
    rw [setCell_eq_setRow w g 0 _ _ _ _ h, setRow_heap _ _ _ _ _ _ h]; rfl
  have h2 : ((w.setCell ⟨g, 0, none⟩ (.string (str y.name))).setCell ⟨g, 1, none⟩ (.int .i64 y.ramp)).heap[g]? = some (.cells #[.string (str y.name), .int .i64 y.ramp, v] 24 (0, 0)) := by
    rw [setCell_eq_setRow _ g 1 _ _ _ _ h1, setRow_heap _ _ _ _ _ _ h1]; rfl
  rw [setCell_eq_setRow _ g 2 _ _ _ _ h2, setRow_heap _ _ _ _ _ _ h2]; rfl
theorem IsSc.set2 {w : World} {g : Nat} {x : Sc} {v : Value} (h : IsSc w g x v) (u : Value) : IsSc (w.setCell ⟨g, 2, none⟩ u) g x u := by
  unfold IsSc at h ⊢
  rw [setCell_eq_setRow w g 2 _ _ _ _ h, setRow_heap _ _ _ _ _ _ h]; rfl
theorem IsSc.setO {w : World} {g g' i : Nat} {x : Sc} {v : Value} (h : IsSc w g x v) (hne : g ≠ g') (u : Value) : IsSc (w.setCell ⟨g', i, none⟩ u) g x v := (Below.heap_setCell _ _ _ _ hne).trans h

set_option maxRecDepth 100000 in
set_option maxHeartbeats 1000000 in
theorem scFind_any (l : List Sc) (v : Value) (nm : List UInt8) (w : World) (hrd : RdSc w w.heap.size v l) (hle : ∀ x ∈ l, x.stages.length ≤ 1000000) :
    Calls Tryd.prog 14 #[v, .string (str nm)] w (FindScPost (findSc l nm) w) := by
  obtain ⟨A, c, rfl, hc, hml⟩ := hrd.form
  obtain ⟨r, hr⟩ : ∃ r, findSc l nm = r := ⟨_, rfl⟩
  rw [hr]
  unfold maxLen at hml
  have HR := Lib.hid hr
  have HRD := Lib.hid hrd
  have HLE := Lib.hid hle
  clear hr hrd hle
  go_enter Tryd.func14, Tryd.ntmps14
  go_wp2_with fail
  go_loopw [10] (fun i wr => ∃ k : Nat, k ≤ l.length ∧ i = .int .i64 k ∧ findSc (l.drop k) nm = r ∧ Below w.heap.size w wr ∧ IsSc wr w.heap.size Sc.zero (.slice none 0 0)) (fun i _ => l.length - (intOf i).toNat)
  case atStart => exact ⟨0, by omega, rfl, by rw [List.drop_zero, HR.out], (Below.refl _ _).alloc (Nat.le_refl _) _, heap_alloc_last w _⟩
  case round =>
    obtain ⟨k, hk, rfl, hrk, hb, hres⟩ := hrel
    have HB := Lib.hid hb
    have HRES := Lib.hid hres
    have hsz := hb.size
    clear hb hres
    by_cases hlt : k < l.length
    · have hx : l[k]? = some l[k] := List.getElem?_eq_getElem hlt
      obtain ⟨x, hxe⟩ : ∃ x, l[k] = x := ⟨_, rfl⟩
      have HXL := Lib.hid (show x.stages.length ≤ 1000000 from HLE.out x (by rw [← hxe]; exact List.getElem_mem hlt))
      rw [hxe] at hx
      obtain ⟨b, off, A1, c1, rfl, hbl, _, _, hst, q0, q1, q2⟩ := RdSc.at_ (HRD.out.below HB.out) hx
      have HST := Lib.hid hst
      have HD := Lib.hid (findSc_drop hx hrk)
      have hn := str_eqb x.name nm
      clear hxe hx hrk hst
      cases he : (x.name == nm)
      · rw [he] at hn
        have HN := Lib.hid (HD.out.2 he)
        clear he
        go_wp2_with fail
        exact ⟨⟨k + 1, by omega, by go_num, HN.out, HB.out.alloc hsz _, HRES.out.alloc _⟩, by simp [intOf]; omega⟩
      · rw [he] at hn
        have hrx := HD.out.1 he
        subst hrx
        clear he
        go_wp2_with fail
        refine (clone_any x.stages A1 c1 _ (HST.out.more hsz |>.next ((Below.refl _ _).alloc (Nat.le_refl _) _)) HXL.out).mono ?_
        rintro e w2 ⟨A2, c2, he, ho2, hb2⟩
        subst he
        have hgr := HRES.out.cells.2.2.2.2.2.2
        have HB2 := Lib.hid ((HB.out.alloc hsz _).trans (hb2.mono (by rw [World.size_alloc]; omega)))
        have HO2 := Lib.hid ho2
        have HRES2 := Lib.hid ((HRES.out.alloc _).below hb2 (by rw [World.size_alloc]; omega))
        have HNEW2 := Lib.hid (IsSc.below (x := x) (v := .slice A1 x.stages.length c1) (g := wr.heap.size) (heap_alloc_last wr _) hb2 (by rw [World.size_alloc]; omega))
        have hs2 : wr.heap.size < w2.heap.size := HNEW2.out.cells.2.2.2.2.2.2
        have hne : w.heap.size ≠ wr.heap.size := by omega
        have hne' : wr.heap.size ≠ w.heap.size := by omega
        clear ho2 hb2 q0 q1 q2
        obtain ⟨z0, z1, z2, y0, y1, y2, hgl⟩ := HRES2.out.cells
        obtain ⟨a0, a1, a2, b0, b1, b2, hal⟩ := HNEW2.out.cells
        go_wp2_with fail
        have HP := Lib.hid (IsSc.put (IsSc.setO (i := 2) HRES2.out hne (.slice A2 x.stages.length c2)) x (.slice A2 x.stages.length c2))
        refine bodyPost_ret (v := .tuple #[.agg (scCells x (.slice A2 x.stages.length c2)).toArray, .bool true]) ?_ rfl ⟨x, A2, c2, rfl, rfl, ?_, ?_⟩
        · exact results_cell2 Tryd.results14 _ _ w.heap.size 0 (scCells x (.slice A2 x.stages.length c2)) rfl (rangeAt_block HP.out) Tryd.underlying24 rfl sc_info _ rfl
        · have hl1 : wr.heap.size < (wr.alloc (.cells #[.string (str x.name), .int .i64 x.ramp, .slice A1 x.stages.length c1] 24)).heap.size := by rw [World.size_alloc]; omega
          have hl2 : w.heap.size < (wr.alloc (.cells #[.string (str x.name), .int .i64 x.ramp, .slice A1 x.stages.length c1] 24)).heap.size := by rw [World.size_alloc]; omega
          exact Rd.of_own (ownsRow_setCell_below (ownsRow_setCell_below (ownsRow_setCell_below (ownsRow_setCell_below HO2.out (a := ⟨wr.heap.size, 2, none⟩) hl1 _) (a := ⟨w.heap.size, 0, none⟩) hl2 _) (a := ⟨w.heap.size, 1, none⟩) hl2 _) (a := ⟨w.heap.size, 2, none⟩) hl2 _)
        · exact Below.setCell (Below.setCell (Below.setCell (Below.setCell HB2.out hsz _) (Nat.le_refl _) _) (Nat.le_refl _) _) (Nat.le_refl _) _
    · have hrn : r = none := by
        rw [List.drop_eq_nil_of_le (by omega)] at hrk
        exact hrk.symm
      subst hrn
      clear hrk HR
      obtain ⟨z0, z1, z2, y0, y1, y2, hgl⟩ := HRES.out.cells
      go_wp2_with fail
      have HP := Lib.hid (HRES.out.put Sc.zero (.slice none 0 0))
      refine bodyPost_ret (v := .tuple #[.agg (scCells Sc.zero (.slice none 0 0)).toArray, .bool false]) ?_ rfl ⟨Sc.zero, none, 0, rfl, rfl, RdSt.nil _ _, ?_⟩
      · exact results_cell2 Tryd.results14 _ _ w.heap.size 0 (scCells Sc.zero (.slice none 0 0)) rfl (rangeAt_block HP.out) Tryd.underlying24 rfl sc_info _ rfl
      · exact Below.setCell (Below.setCell (Below.setCell HB.out (Nat.le_refl _) _) (Nat.le_refl _) _) (Nat.le_refl _) _

end Go.Proofs.YtabdlldkkcjppaaDoor

namespace Go.Proofs.YtabdlldkkcjppaaDoor
open Go.RowKit Saw

theorem sc_mem (x : Sc) {A : Option Addr} {n c : Nat} : ∀ v ∈ scCells x (.slice A n c), v.oneCell' = true := by
  intro v hv
  simp only [scCells, List.mem_cons, List.not_mem_nil, or_false] at hv
  rcases hv with rfl | rfl | rfl <;> rfl
theorem sc_there (W : World) : (W.alloc (.cells #[.string ⟨#[]⟩, .int .i64 0, .slice none 0 0] 24)).there W.heap.size 0 3 := there_block (heap_alloc_last W _) rfl
theorem sc_thereB {W w2 : World} (hb : Below ((W.alloc (.cells #[.string ⟨#[]⟩, .int .i64 0, .slice none 0 0] 24)).drew).heap.size ((W.alloc (.cells #[.string ⟨#[]⟩, .int .i64 0, .slice none 0 0] 24)).drew) w2) : w2.there W.heap.size 0 3 :=
  there_below hb (show W.heap.size < (W.alloc (.cells #[.string ⟨#[]⟩, .int .i64 0, .slice none 0 0] 24)).heap.size by rw [World.size_alloc]; omega) (sc_there W)

theorem keepZ {N : Nat} {W1 W : World} {v : Value} (hc : W1.cell? ⟨N, 0, none⟩ = some v) (hN : N < W1.heap.size) (h : Below W1.heap.size W1 W) : W.cell? ⟨N, 0, none⟩ = some v ∧ Below W1.heap.size W1 W :=
  ⟨(h.cell (p := ⟨N, 0, none⟩) hN).trans hc, h⟩
section
variable {N g o : Nat} {W1 W w2 : World}
theorem z_alloc (h : Below W1.heap.size W1 W) {ob : Obj} : Below W1.heap.size W1 (W.alloc ob) := h.alloc h.size ob
theorem z_call (h : Below W1.heap.size W1 W) (h2 : Below W.heap.size W w2) : Below W1.heap.size W1 w2 := h.trans (h2.mono h.size)
theorem z_size (h : Below W1.heap.size W1 W) (h2 : Below W.heap.size W w2) : W1.heap.size ≤ w2.heap.size := by have := h.size; have := h2.size; omega
theorem z_forget {P : World → Prop} (hS : Below W1.heap.size W1 W) (h : ∀ W, Below W1.heap.size W1 W → P W) : P W := h W hS
theorem z_set (h : Below W1.heap.size W1 W) (hg : W1.heap.size ≤ g) {vs : List Value} : Below W1.heap.size W1 (W.setCells g o vs) := h.setCells hg vs o
end

set_option maxRecDepth 100000 in
set_option maxHeartbeats 1000000 in
theorem scValid_any (l : List Sc) (v : Value) (w : World) (hrd : RdSc w w.heap.size v l) (hle : ∀ x ∈ l, x.stages.length ≤ 1000000) (hnm : ∀ x ∈ l, x.name.length ≤ 1000000) :
    Calls Tryd.prog 36 #[v] w (BoolB (validP l) w) := by
  obtain ⟨A, c, rfl, hc, hml⟩ := hrd.form
  obtain ⟨r, hr⟩ : ∃ r, validP l = r := ⟨_, rfl⟩
  rw [hr]
  unfold maxLen at hml
  by_cases h8 : 8 < l.length
  · have hr4 : r = false := by rw [← hr, validP, show decide (l.length ≤ 8) = false by rw [decide_eq_false_iff_not]; omega, Bool.false_and]
    subst hr4
    clear hr hrd
    go_enter Tryd.func36, Tryd.ntmps36
    go_wp2_with fail
    go_ret
    exact ⟨rfl, Below.refl _ _⟩
  · rw [validP, show decide (l.length ≤ 8) = true by rw [decide_eq_true_iff]; omega, Bool.true_and] at hr
    have HR := Lib.hid hr
    have HRD := Lib.hid hrd
    have HNM := Lib.hid hnm
    have HLE := Lib.hid hle
    clear hr hrd hnm hle
    go_enter Tryd.func36, Tryd.ntmps36
    go_wp2_with fail
    go_loopw [12] (fun i wr => ∃ k : Nat, k ≤ l.length ∧ i = .int .i64 k ∧ validFrom l k = r ∧ Below w.heap.size w wr) (fun i _ => l.length - (intOf i).toNat)
    case atStart => exact ⟨0, by omega, rfl, HR.out, Below.refl _ _⟩
    case round =>
      obtain ⟨k, hk, rfl, hrk, hb⟩ := hrel
      have HB := Lib.hid hb
      have hsz := hb.size
      clear hb
      by_cases hlt : k < l.length
      · have hx : l[k]? = some l[k] := List.getElem?_eq_getElem hlt
        obtain ⟨x, hxe⟩ : ∃ x, l[k] = x := ⟨_, rfl⟩
        have HXN := Lib.hid (show x.name.length ≤ 1000000 from HNM.out x (by rw [← hxe]; exact List.getElem_mem hlt))
        rw [hxe] at hx
        rw [validFrom_at hx] at hrk
        obtain ⟨b, off, A1, c1, rfl, hbl, _, _, hst, q0, q1, q2⟩ := RdSc.at_ (HRD.out.below HB.out) hx
        have HST := Lib.hid hst
        have HK := Lib.hid hrk
        have HTK := Lib.hid (RdSc.take HRD.out k hk)
        clear hxe hx hrk hst
        go_wp2_with fail
        refine (scCheck_any x A1 c1 _ (HST.out.more hsz |>.next ((Below.refl _ _).alloc (Nat.le_refl _) _)) HXN.out).mono ?_
        rintro e w1 ⟨he, hb1⟩
        have hbw1 : Below w.heap.size w w1 := (HB.out.alloc hsz _).trans (hb1.mono (by rw [World.size_alloc]; omega))
        have HB1 := Lib.hid hbw1
        have hsz1 := hbw1.size
        have hNl : wr.heap.size < w1.heap.size := Nat.lt_of_lt_of_le (by rw [World.size_alloc]; omega) hb1.size
        have hc1 : w1.cell? ⟨wr.heap.size, 0, none⟩ = some (.string (str x.name)) := (hb1.cell (p := ⟨wr.heap.size, 0, none⟩) (by show wr.heap.size < _; rw [World.size_alloc]; omega)).trans (by rw [World.cell?_alloc_at _ _ _ _ rfl]; rfl)
        obtain ⟨q, hq⟩ : ∃ q, checkSc x = q := ⟨_, rfl⟩
        rw [hq] at he
        subst he
        clear hb1 hbw1 q0 q1 q2
        by_cases hq0 : q = 0
        · subst hq0
          have HK1 := Lib.hid (show ((findSc (l.take k) x.name).isNone && validFrom l (k + 1)) = r by have h9 := HK.out; rw [hq, show decide ((0 : Int) = 0) = true from rfl, Bool.true_and] at h9; exact h9)
          clear hq HK
          go_wp2_with fail
          have hk1 : (0 : Int) ≤ (k : Int) := by omega
          have hk2 : (k : Int) ≤ (c : Int) := by omega
          obtain ⟨N, hN⟩ : ∃ N, wr.heap.size = N := ⟨_, rfl⟩
          rw [hN] at hNl hc1
          obtain ⟨rr, hrr⟩ : ∃ rr, findSc (l.take k) x.name = rr := ⟨_, rfl⟩
          obtain ⟨q, hq⟩ : ∃ q, rr.isSome = q := ⟨_, rfl⟩
          have HF : Hid (∀ W, Below w1.heap.size w1 W → Calls Tryd.prog 14 #[.slice (some ⟨b, off, none⟩) k c, .string (str x.name)] W fun e w' => ∃ y A2 n2 c2, e = .returned (.tuple #[.agg (scCells y (.slice A2 n2 c2)).toArray, .bool q]) ∧ Below W.heap.size W w') := by
            intro W hW
            have hbw : Below w.heap.size w W := HB1.out.trans (hW.mono hsz1)
            refine (scFind_any (l.take k) _ x.name W ((HTK.out.below hbw).more hbw.size) (fun z hz => HLE.out z (List.mem_of_mem_take hz))).mono ?_
            rintro e w' ⟨y, A2, c2, _, he, _, hb'⟩
            rw [hrr, hq] at he
            exact ⟨y, A2, _, c2, he, hb'⟩
          have hst : ∀ (W : World) (g : Nat) (y : Sc) (A2 : Option Addr) (n2 c2 : Nat), W.there g 0 3 → (storeCells ⟨g, 0, none⟩ (scCells y (.slice A2 n2 c2))).run Tryd.prog W = .ok () (W.setCells g 0 (scCells y (.slice A2 n2 c2))) := fun W g y A2 n2 c2 h => run_store_there W g _ 3 rfl (sc_mem y) h
          have htn := sc_there
          have hly := fun y A2 n2 c2 => scCells_len y (.slice A2 n2 c2)
          have HC1 := Lib.hid hc1
          have HRR := Lib.hid hrr
          have HQ := Lib.hid hq
          have HNL := Lib.hid hNl
          rw [hN]
          clear hN hrr hq hc1
          go_region_held3 (fun W => W.cell? ⟨N, 0, none⟩ = some (.string (str x.name)) ∧ Below w1.heap.size w1 W)
            ((refine keepZ HC1.out HNL.out ?_; with_reducible first | exact (Below.refl _ _).drew | exact (z_alloc (Below.refl _ _)).drew | exact z_alloc (And.right (by assumption)) | exact z_set (And.right (by assumption)) hw2 | exact z_set (And.right (by assumption)) (Nat.le_refl _) | exact z_call (And.right (by assumption)) hb2))
            (first | (go_at_call 14; refine (HF.out _ (And.right (by assumption))).mono ?_; rintro e w2 ⟨y, A2, n2, c2, rfl, hb2⟩; have hw2 := z_size (And.right (by assumption)) hb2; (try have ht2 := sc_thereB hb2)))
          all_goals
            refine z_forget (W1 := w1) (And.right (by assumption)) ?_
            clear hst htn hly
            intro W3 hB3
            have hbw3 : Below w.heap.size w W3 := HB1.out.trans (hB3.mono hsz1)
            have HBW := Lib.hid hbw3
            have hsz3 := hbw3.size
            clear hB3 hbw3
            cases q with
            | true =>
              have hr7 : r = false := by
                rw [← HK1.out, HRR.out]
                have h9 := HQ.out
                cases rr with
                | none => cases h9
                | some z => rfl
              subst hr7
              go_wp2_with fail
              go_ret
              exact ⟨rfl, HBW.out⟩
            | false =>
              have HN2 := Lib.hid (show validFrom l (k + 1) = r by
                have h8 := HK1.out
                have h9 := HQ.out
                rw [HRR.out] at h8
                cases rr with
                | none => rw [← h8]; rfl
                | some z => cases h9)
              go_wp2_with fail
              exact ⟨⟨k + 1, by omega, by go_num, HN2.out, HBW.out⟩, by simp [intOf]; omega⟩
        · have hr0 : r = false := by have h9 := HK.out; rw [hq, show decide (q = 0) = false by rw [decide_eq_false_iff_not]; exact hq0, Bool.false_and, Bool.false_and] at h9; exact h9.symm
          subst hr0
          have hqb : (q != 0) = true := by rw [bne_iff_ne]; exact hq0
          clear hq hq0
          go_wp2_with fail
          go_ret
          exact ⟨rfl, HB1.out⟩
      · have hr0 : r = true := by rw [validFrom_end hlt] at hrk; exact hrk.symm
        subst hr0
        clear hrk HR
        go_wp2_with fail
        go_ret
        exact ⟨rfl, HB.out⟩

end Go.Proofs.YtabdlldkkcjppaaDoor
