/-
  ProductBack and ProductSpaces walked.
-/
import Derived.Test.YtokgonpeolppnaaDoorPrOpen
import Derived.Test.YtokgonpeolppnaaDoorPrY
import Derived.Test.YtokgonpeolppnaaDoorPrTi
import Derived.Test.YtokgonpeolppnaaDoorLexK
namespace Go.Proofs.YtokgonpeolppnaaDoor
open Go.RowKit Saw Go.Sort

set_option maxRecDepth 100000 in
set_option maxHeartbeats 1000000 in
theorem productBack_walk (l : List Pr) (A : Option Addr) (c : Nat) (w : World) (h : RdPr w w.heap.size (.slice A l.length c) l ∧ ∀ x ∈ l, x.name.length ≤ maxLen) (hv : VarsP w) :
    Calls Tryd.prog 8 #[.slice A l.length c] w (LawP w) := by
  have HRD := Lib.hid h.1
  have HNM := Lib.hid (show ∀ x ∈ l, x.name.length ≤ 9223372036854775807 from fun x hx => by have := h.2 x hx; unfold maxLen at this; omega)
  have HV := Lib.hid hv
  clear h hv
  go_enter Tryd.func8, Tryd.ntmps8
  go_wp2_with fail
  refine (short_any l _ _ HRD.out HNM.out).mono ?_
  rintro e w1 ⟨he, rfl⟩
  obtain ⟨q, hq⟩ : ∃ q, shortP l = q := ⟨_, rfl⟩
  rw [hq] at he
  subst he
  cases q with
  | false =>
    clear hq
    go_wp2_with fail
    refine (awakeP_any _ HV.out).mono ?_
    rintro e w2 ⟨rfl, hb2⟩
    have HB2 := Lib.hid hb2
    clear hb2
    go_wp2_with fail
    go_ret
    exact ⟨rfl, HB2.out⟩
  | true =>
    have HNS := Lib.hid (show ∀ x ∈ l, x.name.length ≤ 1000000 from fun x hx => by have := ((shortP_ok hq).2 x hx).2.2; omega)
    clear hq
    go_wp2_with fail
    refine (prFormat_any l _ _ HRD.out HNS.out HV.out.1 HV.out.2).mono ?_
    rintro e w2 ⟨rfl, hb2⟩
    have HB2 := Lib.hid hb2
    have HRD2 := Lib.hid (HRD.out.next hb2)
    clear hb2
    go_wp2_with fail
    refine (prCheck_any l _ _ HRD2.out HNS.out).mono ?_
    rintro e w3 ⟨he, hb3⟩
    have HB3 := Lib.hid (HB2.out.trans (hb3.mono HB2.out.size))
    have HRD3 := Lib.hid (HRD2.out.next hb3)
    clear hb3 HRD2
    obtain ⟨q, hq⟩ : ∃ q, checkPr l = q := ⟨_, rfl⟩
    rw [hq] at he
    subst he
    by_cases hq0 : q = 0
    · subst hq0
      have HPF := Lib.hid (parsePr_format hq)
      have hfl := formatPr_len hq
      obtain ⟨t, ht⟩ : ∃ t, formatPr l = t := ⟨_, rfl⟩
      rw [ht] at HPF hfl
      rw [ht]
      clear hq ht
      go_wp2_with fail
      refine (parse_pr (str t) _ (by rw [size_str]; omega)).mono ?_
      rintro e w4 ⟨va, he, hra, hb4⟩
      rw [bts_str, HPF.out] at he hra
      subst he
      have HB4 := Lib.hid (HB3.out.trans (hb4.mono HB3.out.size))
      have HRD4 := Lib.hid (HRD3.out.next hb4)
      have HRA4 := Lib.hid (show RdPr w4 w4.heap.size va l from hra)
      clear hb4 hra HRD3
      go_wp2_with fail
      refine (same_any l _ _ _ HRA4.out HRD4.out).mono ?_
      rintro e w5 ⟨rfl, hb5⟩
      have HB5 := Lib.hid (HB4.out.trans (hb5.mono HB4.out.size))
      clear hb5
      go_wp2_with fail
      refine (awakeP_any _ (HV.out.below HB5.out)).mono ?_
      rintro e w6 ⟨rfl, hb6⟩
      have HB6 := Lib.hid (HB5.out.trans (hb6.mono HB5.out.size))
      clear hb6
      go_wp2_with fail
      go_ret
      exact ⟨rfl, HB6.out⟩
    · have hqb : (q != 0) = true := by rw [bne_iff_ne]; exact hq0
      have hfe : formatPr l = [] := by rw [formatPr, if_neg (by rw [hq]; exact hq0)]
      rw [hfe]
      have hse : (str []).toList = [] := by rw [toList_bts, bts_str]
      clear hq hq0 hfe
      go_wp2_with fail
      refine (awakeP_any _ (HV.out.below HB3.out)).mono ?_
      rintro e w6 ⟨rfl, hb6⟩
      have HB6 := Lib.hid (HB3.out.trans (hb6.mono HB3.out.size))
      clear hb6
      go_wp2_with fail
      go_ret
      exact ⟨rfl, HB6.out⟩

set_option maxRecDepth 100000 in
set_option maxHeartbeats 1000000 in
theorem productSpaces_walk (s : ByteArray) (w : World) (hs : s.size ≤ 9223372036854775807) (hv : VarsP w) :
    Calls Tryd.prog 11 #[.string s] w (LawP w) := by
  have HV := Lib.hid hv
  clear hv
  go_enter Tryd.func11, Tryd.ntmps11
  by_cases h4 : 4000 < s.size
  · go_wp2_with fail
    refine (awakeP_any _ HV.out).mono ?_
    rintro e w2 ⟨rfl, hb2⟩
    have HB2 := Lib.hid hb2
    clear hb2
    go_wp2_with fail
    go_ret
    exact ⟨rfl, HB2.out⟩
  · go_wp2_with fail
    refine (parse_pr s _ hs).mono ?_
    rintro e w2 ⟨va, he, hra, hb2⟩
    obtain ⟨p1, p2, p3, hp⟩ : ∃ p1 p2 p3, parsePr (bts s) = (p1, p2, p3) := ⟨_, _, _, rfl⟩
    rw [hp] at he hra
    subst he
    obtain ⟨A1, c1, rfl, _, hml⟩ := hra.form
    have HB2 := Lib.hid hb2
    have HRA2 := Lib.hid hra
    unfold maxLen at hml
    clear hb2 hra
    go_wp2_with fail
    refine (scan_any s _ hs).mono ?_
    rintro e w3 ⟨vx, he, ho, hb3⟩
    have HB3 := Lib.hid (HB2.out.trans (hb3.mono HB2.out.size))
    have HRA3 := Lib.hid (HRA2.out.next hb3)
    clear hb3 HRA2
    by_cases hp2 : p2 = 0
    · subst hp2
      have hsl : (bts s).length ≤ 4000 := by rw [← size_bts]; omega
      obtain ⟨hck0, hck, _, _⟩ := parsePr_inv hp
      obtain ⟨xs, hsc, hpp, hpl⟩ := parsePr_print hp hsl
      have hxl := (scanP_good (bts s) (by rw [hsc])).2.2.2.1
      rw [hsc] at he ho hxl
      subst he
      have HPP := Lib.hid hpp
      have HCK := Lib.hid hck
      have HNM := Lib.hid (show ∀ x ∈ p1, x.name.length ≤ 1000000 from fun x hx => by have := (isNameP_len ((prCheck_mem hck) x hx).1).2; omega)
      have HRL := Lib.hid (show RdLx w3 vx xs from Rd.of_own ho)
      obtain ⟨Ax, cx, rfl, _, _⟩ := HRL.out.form
      clear hp hsc hpp ho hck hck0
      go_wp2_with fail
      refine (print_any Ax _ cx xs _ HRL.out (by omega) (by omega)).mono ?_
      rintro e w4 ⟨rfl, hb4⟩
      have HB4 := Lib.hid (HB3.out.trans (hb4.mono HB3.out.size))
      have HRA4 := Lib.hid (HRA3.out.next hb4)
      clear hb4 HRA3
      go_wp2_with fail
      refine (parse_pr _ _ (by rw [size_str]; omega)).mono ?_
      rintro e w5 ⟨vb, he, hrb, hb5⟩
      rw [bts_str, HPP.out] at he hrb
      subst he
      have HB5 := Lib.hid (HB4.out.trans (hb5.mono HB4.out.size))
      have HRA5 := Lib.hid (HRA4.out.next hb5)
      have HRB5 := Lib.hid (show RdPr w5 w5.heap.size vb p1 from hrb)
      clear hb5 hrb HRA4
      go_wp2_with fail
      refine (same_any p1 _ _ _ HRA5.out HRB5.out).mono ?_
      rintro e w6 ⟨rfl, hb6⟩
      have HB6 := Lib.hid (HB5.out.trans (hb6.mono HB5.out.size))
      have HRA6 := Lib.hid (HRA5.out.next hb6)
      clear hb6 HRA5
      go_wp2_with fail
      refine (prCheck_any p1 _ _ HRA6.out HNM.out).mono ?_
      rintro e w7 ⟨he, hb7⟩
      rw [HCK.out] at he
      subst he
      have HB7 := Lib.hid (HB6.out.trans (hb7.mono HB6.out.size))
      clear hb7
      go_wp2_with fail
      refine (awakeP_any _ (HV.out.below HB7.out)).mono ?_
      rintro e w8 ⟨rfl, hb8⟩
      have HB8 := Lib.hid (HB7.out.trans (hb8.mono HB7.out.size))
      clear hb8
      go_wp2_with fail
      go_ret
      exact ⟨rfl, HB8.out⟩
    · have hqb : (p2 != 0) = true := by rw [bne_iff_ne]; exact hp2
      have hl0 := parsePr_bad hp hp2
      subst hl0
      subst he
      clear hp hp2 ho
      go_wp2_with fail
      refine (awakeP_any _ (HV.out.below HB3.out)).mono ?_
      rintro e w8 ⟨rfl, hb8⟩
      have HB8 := Lib.hid (HB3.out.trans (hb8.mono HB3.out.size))
      clear hb8
      go_wp2_with fail
      go_ret
      exact ⟨rfl, HB8.out⟩

end Go.Proofs.YtokgonpeolppnaaDoor
