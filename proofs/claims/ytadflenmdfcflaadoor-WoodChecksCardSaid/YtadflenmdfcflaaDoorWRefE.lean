/-
  The contracts of sawmillref34's Find, Standard and Same.
-/
import Derived.Test.YtadflenmdfcflaaDoorWRefD
import Derived.Test.YtadflenmdfcflaaDoorWoodE
import Derived.Test.YtadflenmdfcflaaDoorSpEq
import Derived.Test.YtadflenmdfcflaaDoorQuiet
namespace Saw
theorem take_sp {l l' : List Sp} {k : Nat} {x : Sp} (h : l.take k = l'.take k) (h1 : l[k]? = some x) (h2 : l'[k]? = some x) : l.take (k + 1) = l'.take (k + 1) := by
  rw [List.take_add_one, List.take_add_one, h, h1, h2]
end Saw
namespace Go.Proofs.YtadflenmdfcflaaDoor
open Go.RowKit Saw Go.Sort

set_option maxRecDepth 100000 in
set_option maxHeartbeats 1000000 in
theorem refFind_any (l : List Sp) (v : Value) (n : ByteArray) (w : World) (hrd : RdSp w v l) :
    Calls Tryd.prog 14 #[v, .string n] w (FindPost (findSp l (bts n)) w) := by
  obtain ⟨A, c, rfl, hc, hml⟩ := hrd.form
  obtain ⟨r, hr⟩ : ∃ r, findSp l (bts n) = r := ⟨_, rfl⟩
  rw [hr]
  have HR := Lib.hid hr
  have HRD := Lib.hid hrd
  clear hr hrd
  unfold maxLen at hml
  go_enter Tryd.func14, Tryd.ntmps14
  go_wp2_with (with_reducible refine sp_alloc ?_; intro c4 H4)
  go_loop [6] (fun i => ∃ k : Nat, k ≤ l.length ∧ i = .int .i64 k ∧ findSp (l.drop k) (bts n) = r) (fun i => l.length - (intOf i).toNat)
  case atStart => exact ⟨0, by omega, rfl, HR.out⟩
  case round =>
    obtain ⟨k, hk, rfl, hrk⟩ := hrel
    by_cases hlt : k < l.length
    · have hx : l[k]? = some l[k] := List.getElem?_eq_getElem hlt
      obtain ⟨x, hxe⟩ : ∃ x, l[k] = x := ⟨_, rfl⟩
      rw [hxe] at hx
      obtain ⟨b, off, rfl, hbl, hrg⟩ := RdSp.at_ HRD.out hx
      have HRG := Lib.hid (rangeAt_alloc hbl hrg (.cells c4 26))
      have hc0 := HRG.out 0 _ (spC0 x)
      rw [Nat.add_zero] at hc0
      have HD := Lib.hid (find_drop hx hrk)
      have hn := str_eq x.name n
      clear hxe hx hrk hrg
      cases he : (x.name == bts n)
      · rw [he] at hn
        have HE := Lib.hid he
        clear he
        go_wp2_with fail
        exact ⟨⟨k + 1, by omega, by go_num, HD.out.2 HE.out⟩, by simp [intOf]; omega⟩
      · rw [he] at hn
        have hrx := HD.out.1 he
        subst hrx
        clear he
        go_wp2_with (first
          | ((with_reducible refine sp_load b (off + k * 13) x ?hx HRG.out ?_); (case hx => rfl))
          | ((with_reducible refine sp_put (old := c4) (t' := 26) w.heap.size x ?hx ?hy ?hg H4 ?_); (case hx => rfl); (case hy => rfl); (case hg => exact heap_alloc_last w _)))
        refine bodyPost_ret (v := .tuple #[.agg (spCells x).toArray, .bool true]) ?_ rfl ⟨rfl, ?_⟩
        · exact results_cell2 Tryd.results14 _ _ w.heap.size 0 (spCells x) rfl (rangeAt_block (setRow_heap _ _ _ _ _ _ (heap_alloc_last w _))) Tryd.underlying26 rfl sp_info (.bool true) rfl
        exact ((Below.refl _ _).alloc (Nat.le_refl _) _).setRow (Nat.le_refl _) _
    · have hrn : r = none := by
        rw [List.drop_eq_nil_of_le (by omega)] at hrk
        exact hrk.symm
      subst hrn
      clear hrk HR
      go_wp2_with (first
          | ((with_reducible refine wpList_buildAs (t := 26) (spCells Sp.zero).toArray ?hf ?_); (case hf => kernel_rfl); intro arr harr; have HARR := Lib.hid harr; clear harr)
          | ((with_reducible refine sp_put w.heap.size Sp.zero ?hx ?hy (heap_alloc_last w _) H4 ?_); (case hx => rfl); (case hy => (rw [← HARR.out]; rfl))))
      refine bodyPost_ret (v := .tuple #[.agg (spCells Sp.zero).toArray, .bool false]) ?_ rfl ⟨rfl, ?_⟩
      · exact results_cell2 Tryd.results14 _ _ w.heap.size 0 (spCells Sp.zero) rfl (rangeAt_block (setRow_heap _ _ _ _ _ _ (heap_alloc_last w _))) Tryd.underlying26 rfl sp_info (.bool false) rfl
      exact ((Below.refl _ _).alloc (Nat.le_refl _) _).setRow (Nat.le_refl _) _

set_option maxRecDepth 100000 in
set_option maxHeartbeats 400000 in
theorem refStd_any (w : World) : Calls Tryd.prog 19 #[] w (StdPost w) := by
  go_enter Tryd.func19, Tryd.ntmps19
  go_wp2_with (first
    | ((with_reducible refine wpList_buildAs (d := some 1) (t := 26) (spCells sp_pine).toArray ?hf ?_); (case hf => kernel_rfl); intro arr harr; subst harr)
    | ((with_reducible refine wpList_buildAs (d := some 2) (t := 26) (spCells sp_spruce).toArray ?hf ?_); (case hf => kernel_rfl); intro arr harr; subst harr)
    | ((with_reducible refine wpList_buildAs (d := some 3) (t := 26) (spCells sp_oak).toArray ?hf ?_); (case hf => kernel_rfl); intro arr harr; subst harr)
    | ((with_reducible refine wpList_buildAs (d := some 4) (t := 26) (spCells sp_beech).toArray ?hf ?_); (case hf => kernel_rfl); intro arr harr; subst harr)
    | ((with_reducible refine wpList_sliceAs (t := 22) 13 (spsCells stdSp).toArray Tryd.underlying22 sp_info sp_zero ?h1 ?h2 ?hf ?_); (case h1 => decide); (case h2 => decide); (case hf => kernel_rfl); intro arr harr; have HARR := Lib.hid harr; clear harr))
  go_ret
  refine ⟨_, rfl, ?_, (Below.refl _ _).alloc (Nat.le_refl _) _⟩
  rw [HARR.out]
  exact ownsRow_new (Nat.le_refl _) rfl (by decide)

set_option maxRecDepth 100000 in
set_option maxHeartbeats 1000000 in
theorem refSame_any (l l' : List Sp) (v v' : Value) (w : World) (hrd : RdSp w v l) (hrd' : RdSp w v' l') :
    Calls Tryd.prog 17 #[v, v'] w fun e w' => e = .returned (.bool (decide (l = l'))) ∧ Below w.heap.size w w' := by
  obtain ⟨A, c, rfl, hc, hml⟩ := hrd.form
  obtain ⟨A', c', rfl, hc', hml'⟩ := hrd'.form
  unfold maxLen at hml hml'
  obtain ⟨r, hr⟩ : ∃ r, decide (l = l') = r := ⟨_, rfl⟩
  rw [hr]
  by_cases hln : l.length = l'.length
  · have HR := Lib.hid hr
    have HRD := Lib.hid hrd
    have HRD' := Lib.hid hrd'
    have hle : l.length ≤ l'.length := by omega
    have hle' : l'.length ≤ l.length := by omega
    have hne : ((l.length : Int) != (l'.length : Int)) = false := by rw [bne_eq_false_iff_eq]; omega
    have HLN := Lib.hid hln
    clear hr hrd hrd' hln
    go_enter Tryd.func17, Tryd.ntmps17
    go_wp2_with fail
    go_loopw [5] (fun i wr => ∃ k : Nat, k ≤ l.length ∧ i = .int .i64 k ∧ l.take k = l'.take k ∧ Below w.heap.size w wr) (fun i _ => l.length - (intOf i).toNat)
    case atStart => exact ⟨0, by omega, rfl, by simp, Below.refl _ _⟩
    case round =>
      obtain ⟨k, hk, rfl, htk, hb⟩ := hrel
      have HB := Lib.hid hb
      have HTK := Lib.hid htk
      have hsz := hb.size
      clear hb htk
      by_cases hlt : k < l.length
      · have hx : l[k]? = some l[k] := List.getElem?_eq_getElem hlt
        have hy : l'[k]? = some l'[k] := List.getElem?_eq_getElem (by omega)
        obtain ⟨x, hxe⟩ : ∃ x, l[k] = x := ⟨_, rfl⟩
        obtain ⟨y, hye⟩ : ∃ y, l'[k] = y := ⟨_, rfl⟩
        rw [hxe] at hx
        rw [hye] at hy
        clear hxe hye
        obtain ⟨b, off, rfl, hbl, hrg⟩ := RdSp.at_ HRD.out hx
        obtain ⟨b', off', rfl, hbl', hrg'⟩ := RdSp.at_ HRD'.out hy
        have HRG := Lib.hid (rangeAt_below HB.out hbl hrg)
        have HRG' := Lib.hid (rangeAt_below HB.out hbl' hrg')
        have HX := Lib.hid hx
        have HY := Lib.hid hy
        clear hx hy hrg hrg'
        have hk0 : (0 : Int) ≤ (k : Int) := by omega
        have hk1 : (k : Int) < (l.length : Int) := by omega
        have hk2 : (k : Int) < (l'.length : Int) := by omega
        have hbw : b < wr.heap.size := by omega
        have hbw' : b' < wr.heap.size := by omega
        have hgd := fun W x' y' xs ys => run_eqGuard_agg (P := Tryd.prog) W .neq 26 x' y' xs ys guard_sp
        by_cases hxy : x = y
        · have hneq : ∀ W, (binOp .neq 26 (.agg (spCells x).toArray) (.agg (spCells y).toArray)).run Tryd.prog W = .ok (.bool false) W := fun W => by rw [neq_sp]; rw [decide_eq_true hxy]; rfl
          have HXY := Lib.hid hxy
          clear hxy
          go_wp2_with fail
          refine wp_region_quiet_below (by kernel_rfl) (by kernel_rfl) ?_
          repeat (first
            | ((with_reducible refine quiet_load b (off + k * 13) (spCells x) ?hw ?hx HRG.out hbw Tryd.underlying26 ?hd ?hi ?_); (case hi => exact sp_info); (case hw => kernel_rfl); (case hx => rfl); (case hd => rfl))
            | ((with_reducible refine quiet_load b' (off' + k * 13) (spCells y) ?hw ?hx HRG'.out hbw' Tryd.underlying26 ?hd ?hi ?_); (case hi => exact sp_info); (case hw => kernel_rfl); (case hx => rfl); (case hd => rfl))
            | (quiet_step (fail)))
          refine wpQuiet_nil ?_
          rintro w6 ⟨p6, hw6⟩
          have hb6 : Below wr.heap.size wr w6 := by rw [hw6]; exact below_regrown _ _ _
          have HB6 := Lib.hid (HB.out.trans (hb6.mono HB.out.size))
          clear hw6 hb6 hneq hgd
          go_wp2_with fail
          exact ⟨⟨k + 1, by omega, by go_num, take_sp HTK.out HX.out (by rw [HXY.out]; exact HY.out), HB6.out⟩, by simp [intOf]; omega⟩
        · have hneq : ∀ W, (binOp .neq 26 (.agg (spCells x).toArray) (.agg (spCells y).toArray)).run Tryd.prog W = .ok (.bool true) W := fun W => by rw [neq_sp]; rw [decide_eq_false hxy]; rfl
          have hrf : r = false := by
            rw [← HR.out]
            refine decide_eq_false fun h => hxy ?_
            have h1 := HX.out
            rw [h, HY.out] at h1
            injection h1 with h1
            exact h1.symm
          subst hrf
          clear hxy
          go_wp2_with fail
          refine wp_region_quiet_below (by kernel_rfl) (by kernel_rfl) ?_
          repeat (first
            | ((with_reducible refine quiet_load b (off + k * 13) (spCells x) ?hw ?hx HRG.out hbw Tryd.underlying26 ?hd ?hi ?_); (case hi => exact sp_info); (case hw => kernel_rfl); (case hx => rfl); (case hd => rfl))
            | ((with_reducible refine quiet_load b' (off' + k * 13) (spCells y) ?hw ?hx HRG'.out hbw' Tryd.underlying26 ?hd ?hi ?_); (case hi => exact sp_info); (case hw => kernel_rfl); (case hx => rfl); (case hd => rfl))
            | (quiet_step (fail)))
          refine wpQuiet_nil ?_
          rintro w6 ⟨p6, hw6⟩
          have hb6 : Below wr.heap.size wr w6 := by rw [hw6]; exact below_regrown _ _ _
          have HB6 := Lib.hid (HB.out.trans (hb6.mono HB.out.size))
          clear hw6 hb6 hneq hgd
          go_wp2_with fail
          go_ret
          exact ⟨rfl, HB6.out⟩
      · have hrt : r = true := by
          rw [← HR.out]
          refine decide_eq_true ?_
          have h := HTK.out
          rwa [List.take_of_length_le (by omega), List.take_of_length_le (by omega)] at h
        subst hrt
        go_wp2_with fail
        go_ret
        exact ⟨rfl, HB.out⟩
  · have hrf : r = false := by rw [← hr]; exact decide_eq_false fun h => hln (by rw [h])
    subst hrf
    have hne : ((l.length : Int) != (l'.length : Int)) = true := by rw [bne_iff_ne]; omega
    clear hr hrd hrd' hln
    go_enter Tryd.func17, Tryd.ntmps17
    go_wp2_with fail
    go_ret
    exact ⟨rfl, Below.refl _ _⟩

end Go.Proofs.YtadflenmdfcflaaDoor
