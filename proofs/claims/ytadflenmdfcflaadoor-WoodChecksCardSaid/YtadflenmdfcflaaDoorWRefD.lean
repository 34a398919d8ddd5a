/-
  The contract of sawmillref34.Check.
-/
import Derived.Test.YtadflenmdfcflaaDoorWRefC
import Derived.Test.YtadflenmdfcflaaDoorWoodD
namespace Saw
theorem find_none_of {l : List Sp} {n : List UInt8} (h : ∀ y ∈ l, (y.name == n) = false) : (findSp l n).isSome = false := by
  rw [findSp, Option.isSome_eq_false_iff, Option.isNone_iff_eq_none, List.find?_eq_none]
  intro y hy
  rw [h y hy]; decide
theorem find_some_of {l : List Sp} {n : List UInt8} {j k : Nat} {y : Sp} (hjk : j < k) (hy : l[j]? = some y) (h : (y.name == n) = true) : (findSp (l.take k) n).isSome = true := by
  rw [findSp, List.find?_isSome]
  exact ⟨y, List.mem_of_getElem? (i := j) (by rw [List.getElem?_take_of_lt hjk]; exact hy), h⟩
theorem mem_take_succ {l : List Sp} {j : Nat} {y z : Sp} (hy : l[j]? = some y) (hz : z ∈ l.take (j + 1)) : z ∈ l.take j ∨ z = y := by
  rw [List.take_add_one, hy] at hz
  simpa using hz
end Saw
namespace Go.Proofs.YtadflenmdfcflaaDoor
open Go.RowKit Saw Go.Sort

set_option maxRecDepth 100000 in
set_option maxHeartbeats 1000000 in
theorem refCheck_any (l : List Sp) (v : Value) (w : World) (hrd : RdSp w v l) (hnm : ∀ x ∈ l, x.name.length ≤ 1000000) :
    Calls Tryd.prog 16 #[v] w (IntBelow (checkSp l) w) := by
  obtain ⟨A, c, rfl, hc, hml⟩ := hrd.form
  obtain ⟨r, hr⟩ : ∃ r, checkSp l = r := ⟨_, rfl⟩
  rw [hr]
  unfold maxLen at hml
  by_cases h8 : 8 < l.length
  · have hr4 : r = 4 := by rw [← hr, checkSp, if_pos h8]
    subst hr4
    clear hr hrd
    go_enter Tryd.func16, Tryd.ntmps16
    go_wp2_with fail
    go_ret
    exact ⟨rfl, Below.refl _ _⟩
  · rw [checkSp, if_neg h8] at hr
    have HR := Lib.hid hr
    have HRD := Lib.hid hrd
    have HNM := Lib.hid hnm
    clear hr hrd hnm
    go_enter Tryd.func16, Tryd.ntmps16
    go_wp2_with fail
    go_loopw [3] (fun i wr => ∃ k : Nat, k ≤ l.length ∧ i = .int .i64 k ∧ checkFrom l k = r ∧ Below w.heap.size w wr) (fun i _ => l.length - (intOf i).toNat)
    case atStart => exact ⟨0, by omega, rfl, HR.out, Below.refl _ _⟩
    case round =>
      obtain ⟨k, hk, rfl, hrk, hb⟩ := hrel
      have HB := Lib.hid hb
      have hsz := hb.size
      clear hb
      by_cases hlt : k < l.length
      · have hx : l[k]? = some l[k] := List.getElem?_eq_getElem hlt
        obtain ⟨x, hxe⟩ : ∃ x, l[k] = x := ⟨_, rfl⟩
        have hxn : x.name.length ≤ 1000000 := HNM.out x (by rw [← hxe]; exact List.getElem_mem hlt)
        rw [hxe] at hx
        obtain ⟨b, off, rfl, hbl, hrg⟩ := RdSp.at_ HRD.out hx
        have HRG := Lib.hid hrg
        have hc0 := (rangeAt_below HB.out hbl hrg) 0 _ (spC0 x)
        rw [Nat.add_zero] at hc0
        have HST := Lib.hid (checkFrom_at hx hrk)
        clear hxe hx hrk hrg
        go_wp2_with fail
        refine (refIsName_any _ _ (by rw [size_str]; omega)).mono ?_
        rintro e w1 ⟨he, rfl⟩
        rw [bts_str] at he
        clear hc0
        cases hnm : isNameP x.name
        · rw [hnm] at he
          subst he
          have hr6 : r = 6 := by rw [← HST.out, if_pos hnm]
          subst hr6
          clear hnm
          go_wp2_with fail
          go_ret
          exact ⟨rfl, HB.out⟩
        · rw [hnm] at he
          subst he
          have HST1 := Lib.hid (show (if (findSp (l.take k) x.name).isSome then 7 else if inRangeP x = false then 9 else checkFrom l (k + 1)) = r by have h9 := HST.out; rw [if_neg (by rw [hnm]; decide)] at h9; exact h9)
          clear hnm HST
          go_wp2_with fail
          go_loopw [4] (fun i wr' => ∃ j : Nat, j ≤ k ∧ i = .int .i64 j ∧ (∀ y ∈ l.take j, (y.name == x.name) = false) ∧ Below w.heap.size w wr') (fun i _ => k - (intOf i).toNat)
          case atStart => exact ⟨0, by omega, rfl, by simp, HB.out⟩
          case round =>
            obtain ⟨j, hj, rfl, hall, hb2⟩ := hrel
            have HALL := Lib.hid hall
            have HB2 := Lib.hid hb2
            have hsz2 := hb2.size
            clear hall hb2
            by_cases hjk : j < k
            · have hy : l[j]? = some l[j] := List.getElem?_eq_getElem (by omega)
              obtain ⟨y, hye⟩ : ∃ y, l[j] = y := ⟨_, rfl⟩
              rw [hye] at hy
              clear hye
              obtain ⟨b', off', hbo, hbl', hrg'⟩ := RdSp.at_ HRD.out hy
              cases hbo
              have hcy := (rangeAt_below HB2.out hbl' hrg') 0 _ (spC0 y)
              have hcx := (rangeAt_below HB2.out hbl HRG.out) 0 _ (spC0 x)
              rw [Nat.add_zero] at hcy hcx
              have HY := Lib.hid hy
              have hn := str_eq y.name (str x.name)
              rw [bts_str] at hn
              clear hy hrg'
              cases hyx : (y.name == x.name)
              · rw [hyx] at hn
                have HYX := Lib.hid hyx
                clear hyx
                go_wp2_with fail
                go_quiet (fail)
                clear hn hcy hcx
                go_wp2_with fail
                refine ⟨⟨j + 1, by omega, by go_num, ?_, below_drewN HB2.out _⟩, by simp [intOf]; omega⟩
                intro z hz
                rcases mem_take_succ HY.out hz with h | rfl
                · exact HALL.out z h
                · exact HYX.out
              · rw [hyx] at hn
                have hr7 : r = 7 := by rw [← HST1.out, if_pos (find_some_of hjk HY.out hyx)]
                subst hr7
                clear hyx
                go_wp2_with fail
                go_quiet (fail)
                clear hn hcy hcx
                go_wp2_with fail
                go_ret
                exact ⟨rfl, below_drewN HB2.out _⟩
            · obtain rfl : j = k := by omega
              have HST2 := Lib.hid (show (if inRangeP x = false then 9 else checkFrom l (j + 1)) = r by have h9 := HST1.out; rw [if_neg (by rw [find_none_of HALL.out]; decide)] at h9; exact h9)
              have HR3 := Lib.hid (rangeAt_below HB2.out hbl HRG.out)
              go_wp2_with ((with_reducible refine sp_load b (off + j * 13) x ?hx HR3.out ?_); (case hx => rfl))
              refine (valid_any x _).mono ?_
              rintro e w4 ⟨he, hb4⟩
              have HB4 := Lib.hid (HB2.out.trans (hb4.mono hsz2))
              clear hb4
              cases hir : inRangeP x with
              | false =>
                rw [hir] at he
                subst he
                have hr9 : r = 9 := by rw [← HST2.out, if_pos hir]
                subst hr9
                clear hir
                go_wp2_with fail
                go_ret
                exact ⟨rfl, HB4.out⟩
              | true =>
                rw [hir] at he
                subst he
                have HN2 := Lib.hid (show checkFrom l (j + 1) = r by have h9 := HST2.out; rw [if_neg (by rw [hir]; decide)] at h9; exact h9)
                clear hir
                go_wp2_with fail
                exact ⟨⟨j + 1, by omega, by go_num, HN2.out, HB4.out⟩, by simp [intOf]; omega⟩
      · have hr0 := checkFrom_end hlt hrk
        subst hr0
        clear hrk HR
        go_wp2_with fail
        go_ret
        exact ⟨rfl, HB.out⟩

end Go.Proofs.YtadflenmdfcflaaDoor
