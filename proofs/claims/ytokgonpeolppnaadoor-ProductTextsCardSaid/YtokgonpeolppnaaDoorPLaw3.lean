/-
  ProductTexts walked.
-/
import Derived.Test.YtokgonpeolppnaaDoorPrOpen
import Derived.Test.YtokgonpeolppnaaDoorPrV
import Derived.Test.YtokgonpeolppnaaDoorPrX
import Derived.Test.YtokgonpeolppnaaDoorPrY
namespace Go.Proofs.YtokgonpeolppnaaDoor
open Go.RowKit Saw Go.Sort

set_option maxRecDepth 100000 in
set_option maxHeartbeats 1000000 in
theorem productTexts_walk (l : List Pr) (A : Option Addr) (c : Nat) (s : ByteArray) (w : World) (h : RdPr w w.heap.size (.slice A l.length c) l ∧ ∀ x ∈ l, x.name.length ≤ maxLen) (hs : s.size ≤ 9223372036854775807) (hv : VarsP w) :
    Calls Tryd.prog 5 #[.slice A l.length c, .string s] w (LawP w) := by
  have HRD := Lib.hid h.1
  have HNM := Lib.hid (show ∀ x ∈ l, x.name.length ≤ 9223372036854775807 from fun x hx => by have := h.2 x hx; unfold maxLen at this; omega)
  have HV := Lib.hid hv
  clear h hv
  go_enter Tryd.func5, Tryd.ntmps5
  go_wp2_with fail
  refine (short_any l _ _ HRD.out HNM.out).mono ?_
  rintro e w1 ⟨he, rfl⟩
  obtain ⟨q, hq⟩ : ∃ q, shortP l = q := ⟨_, rfl⟩
  rw [hq] at he
  subst he
  cases q with
  | false =>
    clear hq
    go_wp2_with fail
    refine (awakeP_any _ HV.out).mono ?_
    rintro e w2 ⟨rfl, hb2⟩
    have HB2 := Lib.hid hb2
    clear hb2
    go_wp2_with fail
    go_ret
    exact ⟨rfl, HB2.out⟩
  | true =>
    have HNS := Lib.hid (show ∀ x ∈ l, x.name.length ≤ 1000000 from fun x hx => by have := ((shortP_ok hq).2 x hx).2.2; omega)
    clear hq
    by_cases h9 : 9000 < s.size
    · go_wp2_with fail
      refine (awakeP_any _ HV.out).mono ?_
      rintro e w2 ⟨rfl, hb2⟩
      have HB2 := Lib.hid hb2
      clear hb2
      go_wp2_with fail
      go_ret
      exact ⟨rfl, HB2.out⟩
    · go_wp2_with fail
      refine (parse_pr s _ hs).mono ?_
      rintro e w2 ⟨va, he, hra, hb2⟩
      obtain ⟨p1, p2, p3, hp⟩ : ∃ p1 p2 p3, parsePr (bts s) = (p1, p2, p3) := ⟨_, _, _, rfl⟩
      rw [hp] at he hra
      subst he
      have HB2 := Lib.hid hb2
      have HRD2 := Lib.hid (HRD.out.next hb2)
      have HRA2 := Lib.hid hra
      clear hb2 hra
      go_wp2_with fail
      refine (refParse_pr s _ hs).mono ?_
      rintro e w3 ⟨vb, he, hrb, hb3⟩
      rw [hp] at he hrb
      subst he
      have HB3 := Lib.hid (HB2.out.trans (hb3.mono HB2.out.size))
      have HRD3 := Lib.hid (HRD2.out.next hb3)
      have HRA3 := Lib.hid (HRA2.out.next hb3)
      have HRB3 := Lib.hid hrb
      clear hb3 hrb HRD2 HRA2 hp
      go_wp2_with fail
      refine (prFormat_any l _ _ HRD3.out HNS.out (HV.out.below HB3.out).1 (HV.out.below HB3.out).2).mono ?_
      rintro e w4 ⟨rfl, hb4⟩
      have HB4 := Lib.hid (HB3.out.trans (hb4.mono HB3.out.size))
      have HRD4 := Lib.hid (HRD3.out.next hb4)
      have HRA4 := Lib.hid (HRA3.out.next hb4)
      have HRB4 := Lib.hid (HRB3.out.next hb4)
      clear hb4 HRD3 HRA3 HRB3
      go_wp2_with fail
      refine (refPrFormat_any l _ _ HRD4.out HNS.out).mono ?_
      rintro e w5 ⟨rfl, hb5⟩
      have HB5 := Lib.hid (HB4.out.trans (hb5.mono HB4.out.size))
      have HRA5 := Lib.hid (HRA4.out.next hb5)
      have HRB5 := Lib.hid (HRB4.out.next hb5)
      clear hb5 HRD4 HRA4 HRB4
      go_wp2_with fail
      refine (same_any p1 _ _ _ HRA5.out HRB5.out).mono ?_
      rintro e w6 ⟨rfl, hb6⟩
      have HB6 := Lib.hid (HB5.out.trans (hb6.mono HB5.out.size))
      clear hb6
      go_wp2_with fail
      refine (awakeP_any _ (HV.out.below HB6.out)).mono ?_
      rintro e w7 ⟨rfl, hb7⟩
      have HB7 := Lib.hid (HB6.out.trans (hb7.mono HB6.out.size))
      clear hb7
      go_wp2_with fail
      go_ret
      exact ⟨rfl, HB7.out⟩

end Go.Proofs.YtokgonpeolppnaaDoor
