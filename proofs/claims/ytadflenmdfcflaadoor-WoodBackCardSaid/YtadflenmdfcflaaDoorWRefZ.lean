/-
  The contracts of sawmillref34: valid, Check, Find, Standard, Same, Decimal, words, numbers, Format (joined texts).
-/
import Derived.Test.YtadflenmdfcflaaDoorWRefB
import Derived.Test.YtadflenmdfcflaaDoorWoodD
import Derived.Test.YtadflenmdfcflaaDoorWoodE
import Derived.Test.YtadflenmdfcflaaDoorSpEq
import Derived.Test.YtadflenmdfcflaaDoorQuiet
import Derived.Test.YtadflenmdfcflaaDoorPlainA
import Derived.Laws.IdiomStrings
import Derived.Test.YtadflenmdfcflaaDoorWoodJ
/-
  The contract of sawmillref34.valid.
-/
namespace Saw
theorem inRange_no (x : Sp) (k : Nat) (n lo hi : Int) (hk : (x.nums.zip x.ranges)[k]? = some (n, lo, hi)) (h : (decide (lo ≤ n) && decide (n ≤ hi)) = false) : inRangeP x = false := by
  rw [inRangeP, List.all_eq_false]
  exact ⟨_, List.mem_of_getElem? hk, by rw [h]; decide⟩
end Saw
namespace Go.Proofs.YtadflenmdfcflaaDoor
open Go.RowKit Saw Go.Sort

set_option maxRecDepth 100000 in
set_option maxHeartbeats 2000000 in
theorem valid_any (x : Sp) (w : World) :
    Calls Tryd.prog 31 #[.agg (spCells x).toArray] w fun e w' => e = .returned (.bool (inRangeP x)) ∧ Below w.heap.size w w' := by
  have c1 := spC1 x
  have c2 := spC2 x
  have c3 := spC3 x
  have c4 := spC4 x
  have c5 := spC5 x
  have c6 := spC6 x
  have c7 := spC7 x
  have c8 := spC8 x
  have c9 := spC9 x
  have c10 := spC10 x
  have c11 := spC11 x
  have c12 := spC12 x
  obtain ⟨r, hr⟩ : ∃ r, inRangeP x = r := ⟨_, rfl⟩
  rw [hr]
  have HR := Lib.hid hr
  clear hr
  go_enter Tryd.func31, Tryd.ntmps31
  go_wp2_with fail
  refine (from_any _ _ _ _).mono ?_
  rintro e w0 ⟨he, rfl⟩
  cases hb0 : (decide (3000 ≤ x.green) && decide (x.green ≤ 20000))
  · rw [hb0] at he
    subst he
    have hrf : r = false := by rw [← HR.out]; exact inRange_no x 0 _ _ _ rfl hb0
    subst hrf
    clear hb0
    go_wp2_with fail
    go_ret
    exact ⟨rfl, (Below.refl _ _).alloc (Nat.le_refl _) _⟩
  · rw [hb0] at he
    subst he
    have H0 := Lib.hid hb0
    clear hb0
    go_wp2_with fail
    refine (from_any _ _ _ _).mono ?_
    rintro e w1 ⟨he, rfl⟩
    cases hb1 : (decide (1 ≤ x.fast) && decide (x.fast ≤ 10000))
    · rw [hb1] at he
      subst he
      have hrf : r = false := by rw [← HR.out]; exact inRange_no x 1 _ _ _ rfl hb1
      subst hrf
      clear hb1
      go_wp2_with fail
      go_ret
      exact ⟨rfl, (Below.refl _ _).alloc (Nat.le_refl _) _⟩
    · rw [hb1] at he
      subst he
      have H1 := Lib.hid hb1
      clear hb1
      go_wp2_with fail
      refine (from_any _ _ _ _).mono ?_
      rintro e w2 ⟨he, rfl⟩
      cases hb2 : (decide (1 ≤ x.slow) && decide (x.slow ≤ x.fast))
      · rw [hb2] at he
        subst he
        have hrf : r = false := by rw [← HR.out]; exact inRange_no x 2 _ _ _ rfl hb2
        subst hrf
        clear hb2
        go_wp2_with fail
        go_ret
        exact ⟨rfl, (Below.refl _ _).alloc (Nat.le_refl _) _⟩
      · rw [hb2] at he
        subst he
        have H2 := Lib.hid hb2
        clear hb2
        go_wp2_with fail
        refine (from_any _ _ _ _).mono ?_
        rintro e w3 ⟨he, rfl⟩
        cases hb3 : (decide (1 ≤ x.grad) && decide (x.grad ≤ 20000))
        · rw [hb3] at he
          subst he
          have hrf : r = false := by rw [← HR.out]; exact inRange_no x 4 _ _ _ rfl hb3
          subst hrf
          clear hb3
          go_wp2_with fail
          go_ret
          exact ⟨rfl, (Below.refl _ _).alloc (Nat.le_refl _) _⟩
        · rw [hb3] at he
          subst he
          have H3 := Lib.hid hb3
          clear hb3
          go_wp2_with fail
          refine (from_any _ _ _ _).mono ?_
          rintro e w4 ⟨he, rfl⟩
          cases hb4 : (decide (0 ≤ x.safe) && decide (x.safe ≤ x.grad))
          · rw [hb4] at he
            subst he
            have hrf : r = false := by rw [← HR.out]; exact inRange_no x 3 _ _ _ rfl hb4
            subst hrf
            clear hb4
            go_wp2_with fail
            go_ret
            exact ⟨rfl, (Below.refl _ _).alloc (Nat.le_refl _) _⟩
          · rw [hb4] at he
            subst he
            have H4 := Lib.hid hb4
            clear hb4
            go_wp2_with fail
            refine (from_any _ _ _ _).mono ?_
            rintro e w5 ⟨he, rfl⟩
            cases hb5 : (decide (1 ≤ x.crack) && decide (x.crack ≤ 1000000))
            · rw [hb5] at he
              subst he
              have hrf : r = false := by rw [← HR.out]; exact inRange_no x 5 _ _ _ rfl hb5
              subst hrf
              clear hb5
              go_wp2_with fail
              go_ret
              exact ⟨rfl, (Below.refl _ _).alloc (Nat.le_refl _) _⟩
            · rw [hb5] at he
              subst he
              have H5 := Lib.hid hb5
              clear hb5
              go_wp2_with fail
              refine (from_any _ _ _ _).mono ?_
              rintro e w6 ⟨he, rfl⟩
              cases hb6 : (decide (200 ≤ x.temp) && decide (x.temp ≤ 1200))
              · rw [hb6] at he
                subst he
                have hrf : r = false := by rw [← HR.out]; exact inRange_no x 6 _ _ _ rfl hb6
                subst hrf
                clear hb6
                go_wp2_with fail
                go_ret
                exact ⟨rfl, (Below.refl _ _).alloc (Nat.le_refl _) _⟩
              · rw [hb6] at he
                subst he
                have H6 := Lib.hid hb6
                clear hb6
                go_wp2_with fail
                refine (from_any _ _ _ _).mono ?_
                rintro e w7 ⟨he, rfl⟩
                cases hb7 : (decide (100 ≤ x.depress) && decide (x.depress ≤ 400))
                · rw [hb7] at he
                  subst he
                  have hrf : r = false := by rw [← HR.out]; exact inRange_no x 7 _ _ _ rfl hb7
                  subst hrf
                  clear hb7
                  go_wp2_with fail
                  go_ret
                  exact ⟨rfl, (Below.refl _ _).alloc (Nat.le_refl _) _⟩
                · rw [hb7] at he
                  subst he
                  have H7 := Lib.hid hb7
                  clear hb7
                  go_wp2_with fail
                  refine (from_any _ _ _ _).mono ?_
                  rintro e w8 ⟨he, rfl⟩
                  cases hb8 : (decide (200 ≤ x.density) && decide (x.density ≤ 1500))
                  · rw [hb8] at he
                    subst he
                    have hrf : r = false := by rw [← HR.out]; exact inRange_no x 8 _ _ _ rfl hb8
                    subst hrf
                    clear hb8
                    go_wp2_with fail
                    go_ret
                    exact ⟨rfl, (Below.refl _ _).alloc (Nat.le_refl _) _⟩
                  · rw [hb8] at he
                    subst he
                    have H8 := Lib.hid hb8
                    clear hb8
                    go_wp2_with fail
                    refine (from_any _ _ _ _).mono ?_
                    rintro e w9 ⟨he, rfl⟩
                    cases hb9 : (decide (1000 ≤ x.stiff) && decide (x.stiff ≤ 30000))
                    · rw [hb9] at he
                      subst he
                      have hrf : r = false := by rw [← HR.out]; exact inRange_no x 9 _ _ _ rfl hb9
                      subst hrf
                      clear hb9
                      go_wp2_with fail
                      go_ret
                      exact ⟨rfl, (Below.refl _ _).alloc (Nat.le_refl _) _⟩
                    · rw [hb9] at he
                      subst he
                      have H9 := Lib.hid hb9
                      clear hb9
                      go_wp2_with fail
                      refine (from_any _ _ _ _).mono ?_
                      rintro e w10 ⟨he, rfl⟩
                      cases hb10 : (decide (0 ≤ x.knots) && decide (x.knots ≤ 1000))
                      · rw [hb10] at he
                        subst he
                        have hrf : r = false := by rw [← HR.out]; exact inRange_no x 10 _ _ _ rfl hb10
                        subst hrf
                        clear hb10
                        go_wp2_with fail
                        go_ret
                        exact ⟨rfl, (Below.refl _ _).alloc (Nat.le_refl _) _⟩
                      · rw [hb10] at he
                        subst he
                        have H10 := Lib.hid hb10
                        clear hb10
                        go_wp2_with fail
                        refine (from_any _ _ _ _).mono ?_
                        rintro e w11 ⟨he, rfl⟩
                        cases hb11 : (decide (0 ≤ x.shrink) && decide (x.shrink ≤ 200))
                        · rw [hb11] at he
                          subst he
                          have hrf : r = false := by rw [← HR.out]; exact inRange_no x 11 _ _ _ rfl hb11
                          subst hrf
                          clear hb11
                          go_wp2_with fail
                          go_ret
                          exact ⟨rfl, (Below.refl _ _).alloc (Nat.le_refl _) _⟩
                        · rw [hb11] at he
                          subst he
                          have H11 := Lib.hid hb11
                          clear hb11
                          have hrt : r = true := by rw [← HR.out]; simp only [inRangeP, Sp.nums, Sp.ranges, List.zip_cons_cons, List.zip_nil_left, List.all_cons, List.all_nil, H0.out, H1.out, H2.out, H3.out, H4.out, H5.out, H6.out, H7.out, H8.out, H9.out, H10.out, H11.out, Bool.and_true]
                          subst hrt
                          go_wp2_with fail
                          go_ret
                          exact ⟨rfl, (Below.refl _ _).alloc (Nat.le_refl _) _⟩

end Go.Proofs.YtadflenmdfcflaaDoor

/-
  The contract of sawmillref34.Check.
-/
namespace Saw
theorem find_none_of {l : List Sp} {n : List UInt8} (h : ∀ y ∈ l, (y.name == n) = false) : (findSp l n).isSome = false := by
  rw [findSp, Option.isSome_eq_false_iff, Option.isNone_iff_eq_none, List.find?_eq_none]
  intro y hy
  rw [h y hy]; decide
theorem find_some_of {l : List Sp} {n : List UInt8} {j k : Nat} {y : Sp} (hjk : j < k) (hy : l[j]? = some y) (h : (y.name == n) = true) : (findSp (l.take k) n).isSome = true := by
  rw [findSp, List.find?_isSome]
  exact ⟨y, List.mem_of_getElem? (i := j) (by rw [List.getElem?_take_of_lt hjk]; exact hy), h⟩
theorem mem_take_succ {l : List Sp} {j : Nat} {y z : Sp} (hy : l[j]? = some y) (hz : z ∈ l.take (j + 1)) : z ∈ l.take j ∨ z = y := by
  rw [List.take_add_one, hy] at hz
  simpa using hz
end Saw
namespace Go.Proofs.YtadflenmdfcflaaDoor
open Go.RowKit Saw Go.Sort

set_option maxRecDepth 100000 in
set_option maxHeartbeats 1000000 in
theorem refCheck_any (l : List Sp) (v : Value) (w : World) (hrd : RdSp w v l) (hnm : ∀ x ∈ l, x.name.length ≤ 1000000) :
    Calls Tryd.prog 16 #[v] w (IntBelow (checkSp l) w) := by
  obtain ⟨A, c, rfl, hc, hml⟩ := hrd.form
  obtain ⟨r, hr⟩ : ∃ r, checkSp l = r := ⟨_, rfl⟩
  rw [hr]
  unfold maxLen at hml
  by_cases h8 : 8 < l.length
  · have hr4 : r = 4 := by rw [← hr, checkSp, if_pos h8]
    subst hr4
    clear hr hrd
    go_enter Tryd.func16, Tryd.ntmps16
    go_wp2_with fail
    go_ret
    exact ⟨rfl, Below.refl _ _⟩
  · rw [checkSp, if_neg h8] at hr
    have HR := Lib.hid hr
    have HRD := Lib.hid hrd
    have HNM := Lib.hid hnm
    clear hr hrd hnm
    go_enter Tryd.func16, Tryd.ntmps16
    go_wp2_with fail
    go_loopw [3] (fun i wr => ∃ k : Nat, k ≤ l.length ∧ i = .int .i64 k ∧ checkFrom l k = r ∧ Below w.heap.size w wr) (fun i _ => l.length - (intOf i).toNat)
    case atStart => exact ⟨0, by omega, rfl, HR.out, Below.refl _ _⟩
    case round =>
      obtain ⟨k, hk, rfl, hrk, hb⟩ := hrel
      have HB := Lib.hid hb
      have hsz := hb.size
      clear hb
      by_cases hlt : k < l.length
      · have hx : l[k]? = some l[k] := List.getElem?_eq_getElem hlt
        obtain ⟨x, hxe⟩ : ∃ x, l[k] = x := ⟨_, rfl⟩
        have hxn : x.name.length ≤ 1000000 := HNM.out x (by rw [← hxe]; exact List.getElem_mem hlt)
        rw [hxe] at hx
        obtain ⟨b, off, rfl, hbl, hrg⟩ := RdSp.at_ HRD.out hx
        have HRG := Lib.hid hrg
        have hc0 := (rangeAt_below HB.out hbl hrg) 0 _ (spC0 x)
        rw [Nat.add_zero] at hc0
        have HST := Lib.hid (checkFrom_at hx hrk)
        clear hxe hx hrk hrg
        go_wp2_with fail
        refine (refIsName_any _ _ (by rw [size_str]; omega)).mono ?_
        rintro e w1 ⟨he, rfl⟩
        rw [bts_str] at he
        clear hc0
        cases hnm : isNameP x.name
        · rw [hnm] at he
          subst he
          have hr6 : r = 6 := by rw [← HST.out, if_pos hnm]
          subst hr6
          clear hnm
          go_wp2_with fail
          go_ret
          exact ⟨rfl, HB.out⟩
        · rw [hnm] at he
          subst he
          have HST1 := Lib.hid (show (if (findSp (l.take k) x.name).isSome then 7 else if inRangeP x = false then 9 else checkFrom l (k + 1)) = r by have h9 := HST.out; rw [if_neg (by rw [hnm]; decide)] at h9; exact h9)
          clear hnm HST
          go_wp2_with fail
          go_loopw [4] (fun i wr' => ∃ j : Nat, j ≤ k ∧ i = .int .i64 j ∧ (∀ y ∈ l.take j, (y.name == x.name) = false) ∧ Below w.heap.size w wr') (fun i _ => k - (intOf i).toNat)
          case atStart => exact ⟨0, by omega, rfl, by simp, HB.out⟩
          case round =>
            obtain ⟨j, hj, rfl, hall, hb2⟩ := hrel
            have HALL := Lib.hid hall
            have HB2 := Lib.hid hb2
            have hsz2 := hb2.size
            clear hall hb2
            by_cases hjk : j < k
            · have hy : l[j]? = some l[j] := List.getElem?_eq_getElem (by omega)
              obtain ⟨y, hye⟩ : ∃ y, l[j] = y := ⟨_, rfl⟩
              rw [hye] at hy
              clear hye
              obtain ⟨b', off', hbo, hbl', hrg'⟩ := RdSp.at_ HRD.out hy
              cases hbo
              have hcy := (rangeAt_below HB2.out hbl' hrg') 0 _ (spC0 y)
              have hcx := (rangeAt_below HB2.out hbl HRG.out) 0 _ (spC0 x)
              rw [Nat.add_zero] at hcy hcx
              have HY := Lib.hid hy
              have hn := str_eq y.name (str x.name)
              rw [bts_str] at hn
              clear hy hrg'
              cases hyx : (y.name == x.name)
              · rw [hyx] at hn
                have HYX := Lib.hid hyx
                clear hyx
                go_wp2_with fail
                go_quiet (fail)
                clear hn hcy hcx
                go_wp2_with fail
                refine ⟨⟨j + 1, by omega, by go_num, ?_, below_drewN HB2.out _⟩, by simp [intOf]; omega⟩
                intro z hz
                rcases mem_take_succ HY.out hz with h | rfl
                · exact HALL.out z h
                · exact HYX.out
              · rw [hyx] at hn
                have hr7 : r = 7 := by rw [← HST1.out, if_pos (find_some_of hjk HY.out hyx)]
                subst hr7
                clear hyx
                go_wp2_with fail
                go_quiet (fail)
                clear hn hcy hcx
                go_wp2_with fail
                go_ret
                exact ⟨rfl, below_drewN HB2.out _⟩
            · obtain rfl : j = k := by omega
              have HST2 := Lib.hid (show (if inRangeP x = false then 9 else checkFrom l (j + 1)) = r by have h9 := HST1.out; rw [if_neg (by rw [find_none_of HALL.out]; decide)] at h9; exact h9)
              have HR3 := Lib.hid (rangeAt_below HB2.out hbl HRG.out)
              go_wp2_with ((with_reducible refine sp_load b (off + j * 13) x ?hx HR3.out ?_); (case hx => rfl))
              refine (valid_any x _).mono ?_
              rintro e w4 ⟨he, hb4⟩
              have HB4 := Lib.hid (HB2.out.trans (hb4.mono hsz2))
              clear hb4
              cases hir : inRangeP x with
              | false =>
                rw [hir] at he
                subst he
                have hr9 : r = 9 := by rw [← HST2.out, if_pos hir]
                subst hr9
                clear hir
                go_wp2_with fail
                go_ret
                exact ⟨rfl, HB4.out⟩
              | true =>
                rw [hir] at he
                subst he
                have HN2 := Lib.hid (show checkFrom l (j + 1) = r by have h9 := HST2.out; rw [if_neg (by rw [hir]; decide)] at h9; exact h9)
                clear hir
                go_wp2_with fail
                exact ⟨⟨j + 1, by omega, by go_num, HN2.out, HB4.out⟩, by simp [intOf]; omega⟩
      · have hr0 := checkFrom_end hlt hrk
        subst hr0
        clear hrk HR
        go_wp2_with fail
        go_ret
        exact ⟨rfl, HB.out⟩

end Go.Proofs.YtadflenmdfcflaaDoor

/-
  The contracts of sawmillref34's Find, Standard and Same.
-/
namespace Saw
theorem take_sp {l l' : List Sp} {k : Nat} {x : Sp} (h : l.take k = l'.take k) (h1 : l[k]? = some x) (h2 : l'[k]? = some x) : l.take (k + 1) = l'.take (k + 1) := by
  rw [List.take_add_one, List.take_add_one, h, h1, h2]
end Saw
namespace Go.Proofs.YtadflenmdfcflaaDoor
open Go.RowKit Saw Go.Sort

set_option maxRecDepth 100000 in
set_option maxHeartbeats 1000000 in
theorem refFind_any (l : List Sp) (v : Value) (n : ByteArray) (w : World) (hrd : RdSp w v l) :
    Calls Tryd.prog 14 #[v, .string n] w (FindPost (findSp l (bts n)) w) := by
  obtain ⟨A, c, rfl, hc, hml⟩ := hrd.form
  obtain ⟨r, hr⟩ : ∃ r, findSp l (bts n) = r := ⟨_, rfl⟩
  rw [hr]
  have HR := Lib.hid hr
  have HRD := Lib.hid hrd
  clear hr hrd
  unfold maxLen at hml
  go_enter Tryd.func14, Tryd.ntmps14
  go_wp2_with (with_reducible refine sp_alloc ?_; intro c4 H4)
  go_loop [6] (fun i => ∃ k : Nat, k ≤ l.length ∧ i = .int .i64 k ∧ findSp (l.drop k) (bts n) = r) (fun i => l.length - (intOf i).toNat)
  case atStart => exact ⟨0, by omega, rfl, HR.out⟩
  case round =>
    obtain ⟨k, hk, rfl, hrk⟩ := hrel
    by_cases hlt : k < l.length
    · have hx : l[k]? = some l[k] := List.getElem?_eq_getElem hlt
      obtain ⟨x, hxe⟩ : ∃ x, l[k] = x := ⟨_, rfl⟩
      rw [hxe] at hx
      obtain ⟨b, off, rfl, hbl, hrg⟩ := RdSp.at_ HRD.out hx
      have HRG := Lib.hid (rangeAt_alloc hbl hrg (.cells c4 26))
      have hc0 := HRG.out 0 _ (spC0 x)
      rw [Nat.add_zero] at hc0
      have HD := Lib.hid (find_drop hx hrk)
      have hn := str_eq x.name n
      clear hxe hx hrk hrg
      cases he : (x.name == bts n)
      · rw [he] at hn
        have HE := Lib.hid he
        clear he
        go_wp2_with fail
        exact ⟨⟨k + 1, by omega, by go_num, HD.out.2 HE.out⟩, by simp [intOf]; omega⟩
      · rw [he] at hn
        have hrx := HD.out.1 he
        subst hrx
        clear he
        go_wp2_with (first
          | ((with_reducible refine sp_load b (off + k * 13) x ?hx HRG.out ?_); (case hx => rfl))
          | ((with_reducible refine sp_put (old := c4) (t' := 26) w.heap.size x ?hx ?hy ?hg H4 ?_); (case hx => rfl); (case hy => rfl); (case hg => exact heap_alloc_last w _)))
        refine bodyPost_ret (v := .tuple #[.agg (spCells x).toArray, .bool true]) ?_ rfl ⟨rfl, ?_⟩
        · exact results_cell2 Tryd.results14 _ _ w.heap.size 0 (spCells x) rfl (rangeAt_block (setRow_heap _ _ _ _ _ _ (heap_alloc_last w _))) Tryd.underlying26 rfl sp_info (.bool true) rfl
        exact ((Below.refl _ _).alloc (Nat.le_refl _) _).setRow (Nat.le_refl _) _
    · have hrn : r = none := by
        rw [List.drop_eq_nil_of_le (by omega)] at hrk
        exact hrk.symm
      subst hrn
      clear hrk HR
      go_wp2_with (first
          | ((with_reducible refine wpList_buildAs (t := 26) (spCells Sp.zero).toArray ?hf ?_); (case hf => kernel_rfl); intro arr harr; have HARR := Lib.hid harr; clear harr)
          | ((with_reducible refine sp_put w.heap.size Sp.zero ?hx ?hy (heap_alloc_last w _) H4 ?_); (case hx => rfl); (case hy => (rw [← HARR.out]; rfl))))
      refine bodyPost_ret (v := .tuple #[.agg (spCells Sp.zero).toArray, .bool false]) ?_ rfl ⟨rfl, ?_⟩
      · exact results_cell2 Tryd.results14 _ _ w.heap.size 0 (spCells Sp.zero) rfl (rangeAt_block (setRow_heap _ _ _ _ _ _ (heap_alloc_last w _))) Tryd.underlying26 rfl sp_info (.bool false) rfl
      exact ((Below.refl _ _).alloc (Nat.le_refl _) _).setRow (Nat.le_refl _) _

set_option maxRecDepth 100000 in
set_option maxHeartbeats 400000 in
theorem refStd_any (w : World) : Calls Tryd.prog 19 #[] w (StdPost w) := by
  go_enter Tryd.func19, Tryd.ntmps19
  go_wp2_with (first
    | ((with_reducible refine wpList_buildAs (d := some 1) (t := 26) (spCells sp_pine).toArray ?hf ?_); (case hf => kernel_rfl); intro arr harr; subst harr)
    | ((with_reducible refine wpList_buildAs (d := some 2) (t := 26) (spCells sp_spruce).toArray ?hf ?_); (case hf => kernel_rfl); intro arr harr; subst harr)
    | ((with_reducible refine wpList_buildAs (d := some 3) (t := 26) (spCells sp_oak).toArray ?hf ?_); (case hf => kernel_rfl); intro arr harr; subst harr)
    | ((with_reducible refine wpList_buildAs (d := some 4) (t := 26) (spCells sp_beech).toArray ?hf ?_); (case hf => kernel_rfl); intro arr harr; subst harr)
    | ((with_reducible refine wpList_sliceAs (t := 22) 13 (spsCells stdSp).toArray Tryd.underlying22 sp_info sp_zero ?h1 ?h2 ?hf ?_); (case h1 => decide); (case h2 => decide); (case hf => kernel_rfl); intro arr harr; have HARR := Lib.hid harr; clear harr))
  go_ret
  refine ⟨_, rfl, ?_, (Below.refl _ _).alloc (Nat.le_refl _) _⟩
  rw [HARR.out]
  exact ownsRow_new (Nat.le_refl _) rfl (by decide)

set_option maxRecDepth 100000 in
set_option maxHeartbeats 1000000 in
theorem refSame_any (l l' : List Sp) (v v' : Value) (w : World) (hrd : RdSp w v l) (hrd' : RdSp w v' l') :
    Calls Tryd.prog 17 #[v, v'] w fun e w' => e = .returned (.bool (decide (l = l'))) ∧ Below w.heap.size w w' := by
  obtain ⟨A, c, rfl, hc, hml⟩ := hrd.form
  obtain ⟨A', c', rfl, hc', hml'⟩ := hrd'.form
  unfold maxLen at hml hml'
  obtain ⟨r, hr⟩ : ∃ r, decide (l = l') = r := ⟨_, rfl⟩
  rw [hr]
  by_cases hln : l.length = l'.length
  · have HR := Lib.hid hr
    have HRD := Lib.hid hrd
    have HRD' := Lib.hid hrd'
    have hle : l.length ≤ l'.length := by omega
    have hle' : l'.length ≤ l.length := by omega
    have hne : ((l.length : Int) != (l'.length : Int)) = false := by rw [bne_eq_false_iff_eq]; omega
    have HLN := Lib.hid hln
    clear hr hrd hrd' hln
    go_enter Tryd.func17, Tryd.ntmps17
    go_wp2_with fail
    go_loopw [5] (fun i wr => ∃ k : Nat, k ≤ l.length ∧ i = .int .i64 k ∧ l.take k = l'.take k ∧ Below w.heap.size w wr) (fun i _ => l.length - (intOf i).toNat)
    case atStart => exact ⟨0, by omega, rfl, by simp, Below.refl _ _⟩
    case round =>
      obtain ⟨k, hk, rfl, htk, hb⟩ := hrel
      have HB := Lib.hid hb
      have HTK := Lib.hid htk
      have hsz := hb.size
      clear hb htk
      by_cases hlt : k < l.length
      · have hx : l[k]? = some l[k] := List.getElem?_eq_getElem hlt
        have hy : l'[k]? = some l'[k] := List.getElem?_eq_getElem (by omega)
        obtain ⟨x, hxe⟩ : ∃ x, l[k] = x := ⟨_, rfl⟩
        obtain ⟨y, hye⟩ : ∃ y, l'[k] = y := ⟨_, rfl⟩
        rw [hxe] at hx
        rw [hye] at hy
        clear hxe hye
        obtain ⟨b, off, rfl, hbl, hrg⟩ := RdSp.at_ HRD.out hx
        obtain ⟨b', off', rfl, hbl', hrg'⟩ := RdSp.at_ HRD'.out hy
        have HRG := Lib.hid (rangeAt_below HB.out hbl hrg)
        have HRG' := Lib.hid (rangeAt_below HB.out hbl' hrg')
        have HX := Lib.hid hx
        have HY := Lib.hid hy
        clear hx hy hrg hrg'
        have hk0 : (0 : Int) ≤ (k : Int) := by omega
        have hk1 : (k : Int) < (l.length : Int) := by omega
        have hk2 : (k : Int) < (l'.length : Int) := by omega
        have hbw : b < wr.heap.size := by omega
        have hbw' : b' < wr.heap.size := by omega
        have hgd := fun W x' y' xs ys => run_eqGuard_agg (P := Tryd.prog) W .neq 26 x' y' xs ys guard_sp
        by_cases hxy : x = y
        · have hneq : ∀ W, (binOp .neq 26 (.agg (spCells x).toArray) (.agg (spCells y).toArray)).run Tryd.prog W = .ok (.bool false) W := fun W => by rw [neq_sp]; rw [decide_eq_true hxy]; rfl
          have HXY := Lib.hid hxy
          clear hxy
          go_wp2_with fail
          refine wp_region_quiet_below (by kernel_rfl) (by kernel_rfl) ?_
          repeat (first
            | ((with_reducible refine quiet_load b (off + k * 13) (spCells x) ?hw ?hx HRG.out hbw Tryd.underlying26 ?hd ?hi ?_); (case hi => exact sp_info); (case hw => kernel_rfl); (case hx => rfl); (case hd => rfl))
            | ((with_reducible refine quiet_load b' (off' + k * 13) (spCells y) ?hw ?hx HRG'.out hbw' Tryd.underlying26 ?hd ?hi ?_); (case hi => exact sp_info); (case hw => kernel_rfl); (case hx => rfl); (case hd => rfl))
            | (quiet_step (fail)))
          refine wpQuiet_nil ?_
          rintro w6 ⟨p6, hw6⟩
          have hb6 : Below wr.heap.size wr w6 := by rw [hw6]; exact below_regrown _ _ _
          have HB6 := Lib.hid (HB.out.trans (hb6.mono HB.out.size))
          clear hw6 hb6 hneq hgd
          go_wp2_with fail
          exact ⟨⟨k + 1, by omega, by go_num, take_sp HTK.out HX.out (by rw [HXY.out]; exact HY.out), HB6.out⟩, by simp [intOf]; omega⟩
        · have hneq : ∀ W, (binOp .neq 26 (.agg (spCells x).toArray) (.agg (spCells y).toArray)).run Tryd.prog W = .ok (.bool true) W := fun W => by rw [neq_sp]; rw [decide_eq_false hxy]; rfl
          have hrf : r = false := by
            rw [← HR.out]
            refine decide_eq_false fun h => hxy ?_
            have h1 := HX.out
            rw [h, HY.out] at h1
            injection h1 with h1
            exact h1.symm
          subst hrf
          clear hxy
          go_wp2_with fail
          refine wp_region_quiet_below (by kernel_rfl) (by kernel_rfl) ?_
          repeat (first
            | ((with_reducible refine quiet_load b (off + k * 13) (spCells x) ?hw ?hx HRG.out hbw Tryd.underlying26 ?hd ?hi ?_); (case hi => exact sp_info); (case hw => kernel_rfl); (case hx => rfl); (case hd => rfl))
            | ((with_reducible refine quiet_load b' (off' + k * 13) (spCells y) ?hw ?hx HRG'.out hbw' Tryd.underlying26 ?hd ?hi ?_); (case hi => exact sp_info); (case hw => kernel_rfl); (case hx => rfl); (case hd => rfl))
            | (quiet_step (fail)))
          refine wpQuiet_nil ?_
          rintro w6 ⟨p6, hw6⟩
          have hb6 : Below wr.heap.size wr w6 := by rw [hw6]; exact below_regrown _ _ _
          have HB6 := Lib.hid (HB.out.trans (hb6.mono HB.out.size))
          clear hw6 hb6 hneq hgd
          go_wp2_with fail
          go_ret
          exact ⟨rfl, HB6.out⟩
      · have hrt : r = true := by
          rw [← HR.out]
          refine decide_eq_true ?_
          have h := HTK.out
          rwa [List.take_of_length_le (by omega), List.take_of_length_le (by omega)] at h
        subst hrt
        go_wp2_with fail
        go_ret
        exact ⟨rfl, HB.out⟩
  · have hrf : r = false := by rw [← hr]; exact decide_eq_false fun h => hln (by rw [h])
    subst hrf
    have hne : ((l.length : Int) != (l'.length : Int)) = true := by rw [bne_iff_ne]; omega
    clear hr hrd hrd' hln
    go_enter Tryd.func17, Tryd.ntmps17
    go_wp2_with fail
    go_ret
    exact ⟨rfl, Below.refl _ _⟩

end Go.Proofs.YtadflenmdfcflaaDoor

/-
  The contracts of sawmillref34's Decimal, words and numbers.
-/
namespace Go.Proofs.YtadflenmdfcflaaDoor
open Go.RowKit Saw Go.Sort

theorem dec_len (u : Nat) (h : u ≤ 1000000) : (Lib.decDigits u).length ≤ 21 := by
  have := Lib.itoa_length_le (u : Int) (by omega) (by omega)
  unfold Lib.itoa at this
  rw [if_neg (by omega)] at this
  simpa using this
theorem conv_one (w : World) (u : Nat) :
    (convert 52 9 (.slice (some ⟨w.heap.size, 0, none⟩) 1 1)).run Tryd.prog (w.alloc (.cells #[.int .u8 (48 + (u : Int) % 10)] 5)) = .ok (.string (str [UInt8.ofNat (48 + u % 10)])) (w.alloc (.cells #[.int .u8 (48 + (u : Int) % 10)] 5)) := by
  refine run_convert_bytes_back _ _ _ 5 ⟨w.heap.size, 0, none⟩ 1 [UInt8.ofNat (48 + u % 10)] Tryd.underlying52 Tryd.underlying5 Tryd.underlying9 ?_
  intro j hj
  obtain rfl : j = 0 := by simpa using hj
  have hm : (UInt8.ofNat (48 + u % 10)).toNat = 48 + u % 10 := by rw [UInt8.toNat_ofNat']; omega
  have h0 := rangeAt_block (heap_alloc_last w (.cells #[.int .u8 (48 + (u : Int) % 10)] 5)) 0 _ rfl
  simp only [List.getElem_cons_zero, hm]
  refine Eq.trans h0 ?_
  congr 2

set_option maxRecDepth 100000 in
set_option maxHeartbeats 1000000 in
theorem decimal_any (u : Nat) : u ≤ 1000000 → ∀ w, Calls Tryd.prog 41 #[.int .i64 u] w fun e w' => e = .returned (.string (str (Lib.decDigits u))) ∧ Below w.heap.size w w' := by
  induction u using Nat.strongRecOn with
  | _ u ih =>
    intro hu w
    have hcv := conv_one w u
    by_cases h10 : u < 10
    · rw [Lib.decDigits_one h10]
      clear ih
      rw [show u % 10 = u from Nat.mod_eq_of_lt h10] at hcv
      obtain ⟨d, hd⟩ : ∃ d, UInt8.ofNat (48 + u) = d := ⟨_, rfl⟩
      rw [hd] at hcv ⊢
      clear hd
      go_enter Tryd.func41, Tryd.ntmps41
      go_wp2_with fail
      go_ret
      exact ⟨rfl, (Below.refl _ _).alloc (Nat.le_refl _) _⟩
    · have IH : Hid (∀ W, Calls Tryd.prog 41 #[.int .i64 ((u : Int) / 10)] W fun e w' => e = .returned (.string (str (Lib.decDigits (u / 10)))) ∧ Below W.heap.size W w') := fun W => ih (u / 10) (by omega) (by omega) W
      have HD := Lib.hid (show Lib.decDigits u = Lib.decDigits (u / 10) ++ [UInt8.ofNat (48 + u % 10)] by rw [Lib.decDigits, dif_neg h10])
      have hl := dec_len (u / 10) (by omega)
      obtain ⟨s, hs⟩ : ∃ s, Lib.decDigits (u / 10) = s := ⟨_, rfl⟩
      obtain ⟨d, hd⟩ : ∃ d, UInt8.ofNat (48 + u % 10) = d := ⟨_, rfl⟩
      rw [hs] at hl HD IH
      rw [hd] at HD hcv
      have hz : (str s).size ≤ 21 := by rw [size_str]; exact hl
      have hz1 : (str [d]).size = 1 := rfl
      clear ih hs hd hl
      go_enter Tryd.func41, Tryd.ntmps41
      go_wp2_with fail
      refine (IH.out _).mono ?_
      rintro e w1 ⟨rfl, hb1⟩
      have HB1 := Lib.hid (((Below.refl _ _).alloc (Nat.le_refl _) _).trans (hb1.mono (by rw [World.size_alloc]; omega)))
      clear hb1 hcv
      go_wp2_with fail
      go_ret
      refine ⟨?_, HB1.out⟩
      rw [HD.out, ← str_append]
      rfl

def RowPost (t : TypeId) (n : Nat) (cs : List Value) (w : World) (e : Ending) (w' : World) : Prop := ∃ v, e = .returned v ∧ w'.ownsRow w.heap.size t 1 v n cs ∧ Below w.heap.size w w'
def numCells (x : Sp) : List Value := x.nums.map fun n => .int .i64 n

theorem string_info : (Tryd.prog.info? 9).map (·.size) = some 1 := by kernel_rfl
theorem string_zero : ((Tryd.prog.info? 9).bind (·.zero)) = some (.string ⟨#[]⟩) := by kernel_rfl
theorem int_info : (Tryd.prog.info? 3).map (·.size) = some 1 := by kernel_rfl
theorem int_zero : ((Tryd.prog.info? 3).bind (·.zero)) = some (.int .i64 0) := by kernel_rfl

set_option maxRecDepth 100000 in
set_option maxHeartbeats 400000 in
theorem refWords_any (w : World) : Calls Tryd.prog 40 #[] w (RowPost 9 12 wordCells w) := by
  go_enter Tryd.func40, Tryd.ntmps40
  go_wp2_with ((with_reducible refine wpList_sliceAs (t := 65) 1 wordCells.toArray Tryd.underlying65 string_info string_zero ?h1 ?h2 ?hf ?_); (case h1 => decide); (case h2 => decide); (case hf => kernel_rfl); intro arr harr; have HARR := Lib.hid harr; clear harr)
  go_ret
  refine ⟨_, rfl, ?_, (Below.refl _ _).alloc (Nat.le_refl _) _⟩
  rw [HARR.out]
  exact ownsRow_new (Nat.le_refl _) rfl (by decide)

set_option maxRecDepth 100000 in
set_option maxHeartbeats 1000000 in
theorem refNumbers_any (x : Sp) (w : World) : Calls Tryd.prog 39 #[.agg (spCells x).toArray] w (RowPost 3 12 (numCells x) w) := by
  have c1 := spC1 x
  have c2 := spC2 x
  have c3 := spC3 x
  have c4 := spC4 x
  have c5 := spC5 x
  have c6 := spC6 x
  have c7 := spC7 x
  have c8 := spC8 x
  have c9 := spC9 x
  have c10 := spC10 x
  have c11 := spC11 x
  have c12 := spC12 x
  go_enter Tryd.func39, Tryd.ntmps39
  go_wp2_with ((with_reducible refine wpList_sliceAs (t := 63) 1 (numCells x).toArray Tryd.underlying63 int_info int_zero ?h1 ?h2 ?hf ?_); (case h1 => decide); (case h2 => decide); (case hf => kernel_rfl); intro arr harr; have HARR := Lib.hid harr; clear harr)
  go_ret
  refine ⟨_, rfl, ?_, ((Below.refl _ _).alloc (Nat.le_refl _) _).alloc (by rw [World.size_alloc]; omega) _⟩
  rw [HARR.out]
  have h := ownsRow_new (w := w.alloc (.cells (spCells x).toArray 26)) (base := w.heap.size) (len := 12) (size := 1) (e := 3) (cs := numCells x) (by rw [World.size_alloc]; omega) rfl (by decide)
  rw [World.size_alloc] at h
  exact h

end Go.Proofs.YtadflenmdfcflaaDoor

/-
  The contract of sawmillref34.Format.
-/
namespace Go.Proofs.YtadflenmdfcflaaDoor
open Go.RowKit Saw Go.Sort

theorem keep_nb {nb o : Nat} {wr W : World} {v : Value} (hc : wr.cell? ⟨nb, o, none⟩ = some v) (hnb : nb < wr.heap.size) (h : Below wr.heap.size wr W) : W.cell? ⟨nb, o, none⟩ = some v ∧ Below wr.heap.size wr W :=
  ⟨(h.cell (p := ⟨nb, o, none⟩) hnb).trans hc, h⟩
theorem t_call {wr W w2 : World} (h : Below wr.heap.size wr W) (h2 : Below W.heap.size W w2) : Below wr.heap.size wr w2 := h.trans (h2.mono h.size)
theorem words_form {w' : World} {base : Nat} {v : Value} {j : Nat} {s : List UInt8} (h : w'.ownsRow base 9 1 v 12 wordCells) (hs : wordsL[j]? = some s) :
    ∃ b off c, v = .slice (some ⟨b, off, none⟩) 12 c ∧ 12 ≤ c ∧ b < w'.heap.size ∧ w'.cell? ⟨b, off + j, none⟩ = some (.string (str s)) := by
  obtain ⟨_, _, A, c, rfl, hc, h3⟩ := Rd.of_own h
  obtain ⟨b, off, rfl, hb, hcell⟩ := h3 (by decide)
  exact ⟨b, off, c, rfl, hc, hb, hcell j _ (by rw [wordCells, List.getElem?_map, hs]; rfl)⟩
theorem size_bts (t : ByteArray) : t.size = (bts t).length := by rw [← size_str, str_bts]

set_option maxRecDepth 100000 in
set_option maxHeartbeats 2000000 in
theorem refFormat_any (l : List Sp) (v : Value) (w : World) (hrd : RdSp w v l) (hnm : ∀ x ∈ l, x.name.length ≤ 1000000) :
    Calls Tryd.prog 23 #[v] w (StrBelow (formatSp l) w) := by
  obtain ⟨A, c, rfl, hc, hml⟩ := hrd.form
  obtain ⟨r, hr⟩ : ∃ r, formatSp l = r := ⟨_, rfl⟩
  rw [hr]
  unfold maxLen at hml
  have HR := Lib.hid hr
  have HRD := Lib.hid hrd
  have HNM := Lib.hid hnm
  clear hr hrd hnm
  go_enter Tryd.func23, Tryd.ntmps23
  go_wp2_with fail
  refine (refCheck_any l _ _ HRD.out HNM.out).mono ?_
  rintro e w1 ⟨he, hb1⟩
  obtain ⟨q, hq⟩ : ∃ q, checkSp l = q := ⟨_, rfl⟩
  rw [hq] at he
  subst he
  have HB1 := Lib.hid hb1
  have hsz1 := hb1.size
  clear hb1
  by_cases hq0 : q = 0
  · subst hq0
    obtain ⟨hl8, hall⟩ := checkSp_all hq
    have hrf : l.flatMap spText = r := by rw [← HR.out, formatSp, if_pos hq]
    have HRF := Lib.hid hrf
    have HALL := Lib.hid hall
    clear hq hall hrf HR
    go_wp2_with fail
    go_loopw [3, 4] (fun o i wr => ∃ (k : Nat) (t : ByteArray), k ≤ l.length ∧ i = .int .i64 k ∧ o = .string t ∧ bts t = (l.take k).flatMap spText ∧ Below w.heap.size w wr) (fun _ i _ => l.length - (intOf i).toNat)
    case atStart => exact ⟨0, ⟨#[]⟩, by omega, rfl, rfl, rfl, HB1.out⟩
    case round =>
      obtain ⟨k, t, hk, rfl, rfl, htx, hb⟩ := hrel
      have HB := Lib.hid hb
      have hszr := hb.size
      have HTX := Lib.hid htx
      have htl : t.size ≤ k * 600 := by rw [size_bts, htx]; exact text_len (fun i hi => HALL.out i hi) k hk
      clear hb htx
      by_cases hlt : k < l.length
      · obtain ⟨x, hx, hxn, _, hxr⟩ := HALL.out k hlt
        obtain ⟨b, off, rfl, hbl, hrg⟩ := RdSp.at_ HRD.out hx
        have HRG := Lib.hid (rangeAt_below HB.out hbl hrg)
        have hc0 := HRG.out 0 _ (spC0 x)
        rw [Nat.add_zero] at hc0
        have hnl := isNameP_len hxn
        have HX := Lib.hid hx
        have hsn : (str x.name).size ≤ 16 := by rw [size_str]; omega
        have HXR := Lib.hid hxr
        have h8 : (⟨#[115, 112, 101, 99, 105, 101, 115, 32]⟩ : ByteArray).size = 8 := rfl
        clear hx hxn hxr hrg
        go_wp2_with ((with_reducible refine sp_load b (off + k * 13) x ?hx HRG.out ?_); (case hx => rfl))
        refine (refNumbers_any x _).mono ?_
        rintro e w3 ⟨v3, rfl, hown3, hb3⟩
        have HB3 := Lib.hid (HB.out.trans (hb3.mono hszr))
        obtain ⟨_, _, A3, c3, rfl, hc3, h3⟩ := Rd.of_own hown3
        obtain ⟨nb, no, rfl, hnb, hnc⟩ := h3 (by decide)
        have HNC := Lib.hid hnc
        obtain ⟨t1, ht1⟩ : ∃ t1, t ++ ⟨#[115, 112, 101, 99, 105, 101, 115, 32]⟩ ++ str x.name = t1 := ⟨_, rfl⟩
        have hbt1 : bts t1 = (l.take k).flatMap spText ++ spHead x := by
          rw [← ht1, bts_append, bts_append, bts_str, HTX.out, List.append_assoc, show bts ⟨#[115, 112, 101, 99, 105, 101, 115, 32]⟩ ++ x.name = spHead x by rw [spHead, show bts ⟨#[115, 112, 101, 99, 105, 101, 115, 32]⟩ = speciesW ++ [32] from rfl, List.append_assoc]; rfl]
        have HBT1 := Lib.hid hbt1
        obtain ⟨acc, hacc⟩ : ∃ acc, (l.take k).flatMap spText = acc := ⟨_, rfl⟩
        have hal : acc.length ≤ k * 600 := by rw [← hacc, ← HTX.out, ← size_bts]; exact htl
        rw [hacc] at HBT1
        have HACC := Lib.hid hacc
        rw [ht1]
        clear hb3 hown3 h3 hnc ht1 hbt1 hacc h8 hc0
        go_wp2_with fail
        go_loopw [3, 6] (fun o i wr => ∃ (j : Nat) (t' : ByteArray), j ≤ 12 ∧ i = .int .i64 j ∧ o = .string t' ∧ bts t' = acc ++ spHead x ++ ((wordsL.zip x.nums).take j).flatMap wordNum ∧ Below w3.heap.size w3 wr) (fun _ i _ => 12 - (intOf i).toNat)
        case atStart => exact ⟨0, t1, by omega, rfl, rfl, by rw [HBT1.out, List.take_zero, List.flatMap_nil, List.append_nil], Below.refl _ _⟩
        case round =>
          obtain ⟨j, t', hj, rfl, rfl, htx', hb4⟩ := hrel
          have HB4 := Lib.hid hb4
          have hsz4 := hb4.size
          have HTX' := Lib.hid htx'
          have htl' : t'.size ≤ 8 * 600 + 1000 + 12 * 40 := by rw [size_bts, htx']; exact inner_len hal (by omega) HXR.out (by omega) j
          clear hb4 htx'
          by_cases hjl : j < 12
          · obtain ⟨n, _, _, _, hnj, _, _, _⟩ := nums_index x j hjl
            obtain ⟨s, hws, _⟩ := words_index j hjl
            have hzp : (wordsL.zip x.nums)[j]? = some (s, n) := by rw [List.getElem?_zip_eq_some]; exact ⟨hws, hnj⟩
            have hnb2 := inRange_bd HXR.out n (List.mem_of_getElem? hnj)
            obtain ⟨u, rfl⟩ := Int.eq_ofNat_of_zero_le hnb2.1
            have hsl : (str s).size ≤ 8 := by
              rw [size_str]
              have : ∀ s ∈ wordsL, s.length ≤ 8 := by decide
              exact this s (List.mem_of_getElem? hws)
            have hcn : wr.cell? ⟨nb, no + j, none⟩ = some (.int .i64 u) := (HB4.out.cell (p := ⟨nb, no + j, none⟩) hnb).trans (HNC.out j _ (by rw [numCells, List.getElem?_map, hnj]; rfl))
            have hnb4 : nb < wr.heap.size := by omega
            have HWS := Lib.hid hws
            have HZP := Lib.hid hzp
            have hdl := dec_len u (by omega)
            obtain ⟨dd, hdd⟩ : ∃ dd, Lib.decDigits u = dd := ⟨_, rfl⟩
            rw [hdd] at hdl
            have hds : (str dd).size ≤ 21 := by rw [size_str]; exact hdl
            have HDEC : Hid (∀ W, Calls Tryd.prog 41 #[.int .i64 u] W fun e w' => e = .returned (.string (str dd)) ∧ Below W.heap.size W w') := fun W => by rw [← hdd]; exact decimal_any u (by omega) W
            have hj0 : (0 : Int) ≤ (j : Int) := by omega
            have hj1 : (j : Int) < 12 := by omega
            have q1 : ¬ 9223372036854775807 < t'.size + 1 := by omega
            have q2 : ¬ 9223372036854775807 < t'.size + 1 + (str s).size := by omega
            have q3 : ¬ 9223372036854775807 < t'.size + 1 + (str s).size + 1 := by omega
            have q4 : ¬ 9223372036854775807 < t'.size + 1 + (str s).size + 1 + (str dd).size := by omega
            have HDD := Lib.hid (show Lib.itoa (u : Int) = dd by rw [← hdd]; unfold Lib.itoa; rw [if_neg (by omega)]; simp)
            clear hzp hws hnj hdd hdl hnb2
            go_wp2_with fail
            go_region_with (first
                | (go_at_call 40; refine (refWords_any _).mono ?_; rintro e w5 ⟨v5, rfl, hown5, hb5⟩; (have hcn5 : w5.cell? ⟨nb, no + j, none⟩ = some (.int .i64 u) := (hb5.cell (p := ⟨nb, no + j, none⟩) (by first | exact hnb4 | exact Nat.lt_of_lt_of_le hnb4 hb6.size)).trans (by first | exact hcn | exact hcn6)); obtain ⟨B5, o5, c6, rfl, hcc5, hB5, hc5⟩ := words_form hown5 HWS.out; clear hown5)
                | (go_at_call 41; refine (HDEC.out _).mono ?_; rintro e w6 ⟨rfl, hb6⟩; (have hcn6 : w6.cell? ⟨nb, no + j, none⟩ = some (.int .i64 u) := (hb6.cell (p := ⟨nb, no + j, none⟩) (by first | exact hnb4 | exact Nat.lt_of_lt_of_le hnb4 hb5.size)).trans (by first | exact hcn | exact hcn5)); (try have hc6 := (hb6.cell (p := ⟨B5, o5 + j, none⟩) hB5).trans hc5)))
            all_goals
              go_wp2_with fail
              refine ⟨⟨j + 1, _, by omega, by go_num, rfl, ?_, by first | exact HB4.out.trans ((t_call (below_drew hb5) hb6).mono hsz4) | exact HB4.out.trans ((t_call (below_drew hb6) hb5).mono hsz4)⟩, by simp [intOf]; omega⟩
              rw [bts_append, bts_append, bts_append, bts_append, bts_str, bts_str, HTX'.out, List.take_add_one, HZP.out, show bts ⟨#[32]⟩ = [32] from rfl]
              simp [wordNum, HDD.out]
          · obtain rfl : j = 12 := by omega
            have h2 : (⟨#[59, 10]⟩ : ByteArray).size = 2 := rfl
            go_wp2_with fail
            refine ⟨⟨k + 1, _, by omega, by go_num, rfl, ?_, HB3.out.trans (HB4.out.mono HB3.out.size)⟩, by simp [intOf]; omega⟩
            have e1 : (wordsL.zip x.nums).take 12 = wordsL.zip x.nums := List.take_of_length_le (by rw [zip_len]; omega)
            have e2 : l.take (k + 1) = l.take k ++ [x] := by rw [List.take_add_one, HX.out]; rfl
            rw [bts_append, HTX'.out, e1, e2, List.flatMap_append, HACC.out, show bts ⟨#[59, 10]⟩ = [59, 10] from rfl]
            simp [spText]
      · have hke : k = l.length := by omega
        have HT := Lib.hid (show bts t = r by rw [HTX.out, hke, List.take_length, HRF.out])
        clear hke
        go_wp2_with fail
        go_ret
        refine ⟨?_, HB.out⟩
        rw [← HT.out, str_bts]
        rfl
  · have hqb : (q != 0) = true := by rw [bne_iff_ne]; exact hq0
    have hre : r = [] := by rw [← HR.out, formatSp, if_neg (by rw [hq]; exact hq0)]
    subst hre
    clear hq hq0
    go_wp2_with fail
    go_ret
    exact ⟨rfl, HB1.out⟩

end Go.Proofs.YtadflenmdfcflaaDoor
