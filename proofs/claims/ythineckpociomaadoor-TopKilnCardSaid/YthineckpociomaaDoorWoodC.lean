/-
  The contracts of wood.Find, wood.species.
-/
import Derived.Test.YthineckpociomaaDoorSpM
import Derived.Test.YthineckpociomaaDoorWoodB
namespace Go.Proofs.YthineckpociomaaDoor
open Go.RowKit Saw

def FindPost (r : Option Sp) (w : World) (e : Ending) (w' : World) : Prop :=
  e = .returned (.tuple #[.agg (spCells (r.getD Sp.zero)).toArray, .bool r.isSome]) ∧ Below w.heap.size w w'

theorem find_drop {l : List Sp} {n : List UInt8} {k : Nat} {x : Sp} {r : Option Sp} (hx : l[k]? = some x) (h : findSp (l.drop k) n = r) :
    ((x.name == n) = true → r = some x) ∧ ((x.name == n) = false → findSp (l.drop (k + 1)) n = r) := by
  have hk := List.getElem?_eq_some_iff.1 hx
  rw [List.drop_eq_getElem_cons hk.1, hk.2, findSp, List.find?_cons] at h
  constructor
  · intro h1; rw [h1] at h; exact h.symm
  · intro h1; rw [h1] at h; exact h

theorem str_eq (a : List UInt8) (s : ByteArray) : ((str a).toList == s.toList) = (a == bts s) := by rw [toList_bts, toList_bts, bts_str]

set_option maxRecDepth 100000 in
set_option maxHeartbeats 400000 in
theorem find_any (l : List Sp) (v : Value) (n : ByteArray) (w : World) (hrd : RdSp w v l) :
    Calls Tryd.prog 34 #[v, .string n] w (FindPost (findSp l (bts n)) w) := by
  obtain ⟨A, c, rfl, hc, hml⟩ := hrd.form
  obtain ⟨r, hr⟩ : ∃ r, findSp l (bts n) = r := ⟨_, rfl⟩
  rw [hr]
  have HR := Lib.hid hr
  have HRD := Lib.hid hrd
  clear hr hrd
  unfold maxLen at hml
  go_enter Tryd.func34, Tryd.ntmps34
  go_wp2_with (with_reducible refine sp_alloc ?_; intro c4 H4)
  go_loopw [10] (fun i wr => ∃ k : Nat, k ≤ l.length ∧ i = .int .i64 k ∧ findSp (l.drop k) (bts n) = r ∧ Below (w.heap.size + 1) (w.alloc (.cells c4 24)) wr) (fun i _ => l.length - (intOf i).toNat)
  case atStart => exact ⟨0, by omega, rfl, HR.out, Below.refl _ _⟩
  case round =>
    obtain ⟨k, hk, rfl, hrk, hb⟩ := hrel
    have HB := Lib.hid hb
    have hsz : w.heap.size + 1 ≤ wr.heap.size := by have := hb.size; rw [World.size_alloc] at this; exact this
    have HG := Lib.hid ((hb.block w.heap.size (by omega)).trans (heap_alloc_last w _))
    clear hb
    by_cases hlt : k < l.length
    · have hx : l[k]? = some l[k] := List.getElem?_eq_getElem hlt
      obtain ⟨x, hxe⟩ : ∃ x, l[k] = x := ⟨_, rfl⟩
      rw [hxe] at hx
      obtain ⟨b, off, rfl, hbl, hrg⟩ := RdSp.at_ HRD.out hx
      have HRG := Lib.hid (rangeAt_below (HB.out.mono (show w.heap.size ≤ w.heap.size + 1 by omega)) hbl (rangeAt_below (w' := w.alloc (.cells c4 24)) ((Below.refl _ _).alloc (Nat.le_refl _) _) hbl hrg))
      have HD := Lib.hid (find_drop hx hrk)
      have hn := str_eq x.name n
      have c0 := spC0 x
      clear hxe hx hrk hrg
      cases he : (x.name == bts n)
      · rw [he] at hn
        have HE := Lib.hid he
        clear he
        go_wp2_with (first
          | ((with_reducible refine sp_load b (off + k * 13) x ?hx HRG.out ?_); (case hx => rfl))
          | ((with_reducible refine sp_alloc ?_); intro c5 H5)
          | ((with_reducible refine sp_new x wr.heap.size ?hx rfl ?hy H5 ?_); (case hx => rfl); (case hy => rfl)))
        exact ⟨⟨k + 1, by omega, by go_num, HD.out.2 HE.out, HB.out.alloc hsz _⟩, by simp [intOf]; omega⟩
      · rw [he] at hn
        have hrx := HD.out.1 he
        subst hrx
        clear he
        go_wp2_with (first
          | ((with_reducible refine sp_load b (off + k * 13) x ?hx HRG.out ?_); (case hx => rfl))
          | ((with_reducible refine sp_load wr.heap.size 0 x ?hx ?hc ?_); (case hx => rfl); (case hc => exact rangeAt_block (heap_alloc_last wr _)))
          | ((with_reducible refine sp_alloc ?_); intro c5 H5)
          | ((with_reducible refine sp_new x wr.heap.size ?hx rfl ?hy H5 ?_); (case hx => rfl); (case hy => rfl))
          | ((with_reducible refine sp_put (old := c4) (t' := 24) w.heap.size x ?hx ?hy ?hg H4 ?_); (case hx => rfl); (case hy => rfl); (case hg => exact (Below.heap_alloc _ _ _ (by omega)).trans HG.out)))
        refine bodyPost_ret (v := .tuple #[.agg (spCells x).toArray, .bool true]) ?_ rfl ⟨rfl, ?_⟩
        · exact results_cell2 Tryd.results34 _ _ w.heap.size 0 (spCells x) rfl (rangeAt_block (setRow_heap _ _ _ _ _ _ ((Below.heap_alloc _ _ _ (by omega)).trans HG.out))) Tryd.underlying24 rfl sp_info (.bool true) rfl
        exact (((((Below.refl _ _).alloc (Nat.le_refl _) _).trans (HB.out.mono (by omega))).alloc (by omega) _)).setRow (Nat.le_refl _) _
    · have hrn : r = none := by
        rw [List.drop_eq_nil_of_le (by omega)] at hrk
        exact hrk.symm
      subst hrn
      clear hrk HR
      go_wp2_with (first
          | ((with_reducible refine wpList_buildAs (t := 24) (spCells Sp.zero).toArray ?hf ?_); (case hf => kernel_rfl); intro arr harr; have HARR := Lib.hid harr; clear harr)
          | ((with_reducible refine sp_put w.heap.size Sp.zero ?hx ?hy HG.out H4 ?_); (case hx => rfl); (case hy => (rw [← HARR.out]; rfl))))
      refine bodyPost_ret (v := .tuple #[.agg (spCells Sp.zero).toArray, .bool false]) ?_ rfl ⟨rfl, ?_⟩
      · exact results_cell2 Tryd.results34 _ _ w.heap.size 0 (spCells Sp.zero) rfl (rangeAt_block (setRow_heap _ _ _ _ _ _ HG.out)) Tryd.underlying24 rfl sp_info (.bool false) rfl
      exact (((Below.refl _ _).alloc (Nat.le_refl _) _).trans (HB.out.mono (by omega))).setRow (Nat.le_refl _) _

end Go.Proofs.YthineckpociomaaDoor
