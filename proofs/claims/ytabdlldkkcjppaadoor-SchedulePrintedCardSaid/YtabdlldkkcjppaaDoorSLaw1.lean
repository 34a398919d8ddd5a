/-
  ScheduleFormats, ScheduleParses, ScheduleBack and SchedulePrinted walked.
-/
import Derived.Test.YtabdlldkkcjppaaDoorShOpen
import Derived.Test.YtabdlldkkcjppaaDoorScX
import Derived.Test.YtabdlldkkcjppaaDoorLexG
namespace Go.Proofs.YtabdlldkkcjppaaDoor
open Go.RowKit Saw Go.Sort

theorem rd_scan {w w' : World} {v : Value} {xs : List Lx} (h : OwnsLx w' w.heap.size v xs) : RdLx w' v xs := Rd.of_own h
theorem rdLx_form {w : World} {v : Value} {xs : List Lx} (h : RdLx w v xs) : ∃ A n c, v = .slice A n c := by
  obtain ⟨_, _, A, c, rfl, _⟩ := h
  exact ⟨A, _, c, rfl⟩
theorem rdLx_next {w w' : World} {v : Value} {xs : List Lx} (h : RdLx w v xs) (hb : Below w.heap.size w w') : RdLx w' v xs := Rd.next h hb
theorem VarsS.to {w w' : World} (h : VarsS w) (hb : Below w.heap.size w w') : VarsS w' := h.below hb h.2.2.1 h.2.2.2

set_option maxRecDepth 100000 in
set_option maxHeartbeats 1000000 in
theorem scheduleFormats_walk (l : List Sc) (A : Option Addr) (c : Nat) (w : World) (h : RdSc w w.heap.size (.slice A l.length c) l ∧ ∀ x ∈ l, x.name.length ≤ maxLen) (hv : VarsS w) :
    Calls Tryd.prog 5 #[.slice A l.length c] w (LawS w) := by
  have HRD := Lib.hid h.1
  have HNM := Lib.hid h.2
  have HV := Lib.hid hv
  clear h hv
  go_enter Tryd.func5, Tryd.ntmps5
  go_wp2_with fail
  refine (few_any l _ _ HRD.out HNM.out).mono ?_
  rintro e w1 ⟨he, hb1⟩
  have HRD1 := Lib.hid (HRD.out.next hb1)
  have HB1 := Lib.hid hb1
  clear hb1
  obtain ⟨q, hq⟩ : ∃ q, fewP l = q := ⟨_, rfl⟩
  rw [hq] at he
  subst he
  cases q with
  | false =>
    clear hq
    go_wp2_with fail
    refine (awakeS_any _ (HV.out.to HB1.out)).mono ?_
    rintro e w2 ⟨rfl, hb2⟩
    have HB2 := Lib.hid (HB1.out.trans (hb2.mono HB1.out.size))
    clear hb2
    go_wp2_with fail
    go_ret
    exact ⟨rfl, HB2.out⟩
  | true =>
    have HFW := Lib.hid (fewP_hyp hq)
    clear hq
    go_wp2_with fail
    refine (scFormat_any l _ _ HRD1.out HFW.out.1 HFW.out.2 (HV.out.to HB1.out)).mono ?_
    rintro e w2 ⟨rfl, hb2⟩
    have HB2 := Lib.hid (HB1.out.trans (hb2.mono HB1.out.size))
    have HRD2 := Lib.hid (HRD1.out.next hb2)
    clear hb2
    go_wp2_with fail
    refine (rscFormat_any l _ _ HRD2.out HFW.out.2).mono ?_
    rintro e w3 ⟨rfl, hb3⟩
    have HB3 := Lib.hid (HB2.out.trans (hb3.mono HB2.out.size))
    obtain ⟨tt, ht⟩ : ∃ tt, str (formatSc l) = tt := ⟨_, rfl⟩
    rw [ht]
    have hee : (tt.toList == tt.toList) = true := by simp
    clear hb3 ht
    go_wp2_with fail
    refine (awakeS_any _ (HV.out.to HB3.out)).mono ?_
    rintro e w4 ⟨rfl, hb4⟩
    have HB4 := Lib.hid (HB3.out.trans (hb4.mono HB3.out.size))
    clear hb4
    go_wp2_with fail
    go_ret
    exact ⟨rfl, HB4.out⟩

set_option maxRecDepth 100000 in
set_option maxHeartbeats 1000000 in
theorem scheduleParses_walk (s : ByteArray) (w : World) (hs : s.size ≤ 9223372036854775807) (hv : VarsS w) :
    Calls Tryd.prog 6 #[.string s] w (LawS w) := by
  have HV := Lib.hid hv
  clear hv
  by_cases h1 : 10000 < s.size
  · go_enter Tryd.func6, Tryd.ntmps6
    go_wp2_with fail
    refine (awakeS_any _ HV.out).mono ?_
    rintro e w2 ⟨rfl, hb2⟩
    have HB2 := Lib.hid hb2
    clear hb2
    go_wp2_with fail
    go_ret
    exact ⟨rfl, HB2.out⟩
  · go_enter Tryd.func6, Tryd.ntmps6
    go_wp2_with fail
    refine (scParse_any s _ hs HV.out).mono ?_
    rintro e w1 ⟨v1, he, hrd1, hb1⟩
    obtain ⟨l, er, at_, hp⟩ : ∃ l er at_, parseSc (bts s) = (l, er, at_) := ⟨_, _, _, rfl⟩
    rw [hp] at he hrd1
    simp only at he hrd1
    obtain ⟨A, c, rfl, _, _⟩ := hrd1.form
    subst he
    have HP := Lib.hid hp
    have HRD1 := Lib.hid hrd1
    have HB1 := Lib.hid hb1
    clear hb1 hrd1 hp
    go_wp2_with fail
    refine (rscParse_any s _ hs).mono ?_
    rintro e w2 ⟨v2, he, hrd2, hb2⟩
    rw [HP.out] at he hrd2
    simp only at he hrd2
    obtain ⟨A2, c2, rfl, _, _⟩ := hrd2.form
    subst he
    have HRD2 := Lib.hid hrd2
    have HRE2 := Lib.hid (HRD1.out.next hb2)
    have HB2 := Lib.hid (HB1.out.trans (hb2.mono HB1.out.size))
    clear hb2 hrd2
    go_wp2_with fail
    refine (sameScs_any l _ _ _ HRE2.out HRD2.out).mono ?_
    rintro e w3 ⟨rfl, hb3⟩
    have HB3 := Lib.hid (HB2.out.trans (hb3.mono HB2.out.size))
    have he1 : (er == er) = true := by simp
    have he2 : (at_ == at_) = true := by simp
    clear hb3
    go_wp2_with fail
    refine (awakeS_any _ (HV.out.to HB3.out)).mono ?_
    rintro e w4 ⟨rfl, hb4⟩
    have HB4 := Lib.hid (HB3.out.trans (hb4.mono HB3.out.size))
    clear hb4
    go_wp2_with fail
    go_ret
    exact ⟨rfl, HB4.out⟩

set_option maxRecDepth 100000 in
set_option maxHeartbeats 1000000 in
theorem scheduleBack_walk (l : List Sc) (A : Option Addr) (c : Nat) (w : World) (h : RdSc w w.heap.size (.slice A l.length c) l ∧ ∀ x ∈ l, x.name.length ≤ maxLen) (hv : VarsS w) :
    Calls Tryd.prog 7 #[.slice A l.length c] w (LawS w) := by
  have HRD := Lib.hid h.1
  have HNM := Lib.hid h.2
  have HV := Lib.hid hv
  clear h hv
  go_enter Tryd.func7, Tryd.ntmps7
  go_wp2_with fail
  refine (few_any l _ _ HRD.out HNM.out).mono ?_
  rintro e w1 ⟨he, hb1⟩
  have HRD1 := Lib.hid (HRD.out.next hb1)
  have HB1 := Lib.hid hb1
  clear hb1
  obtain ⟨q, hq⟩ : ∃ q, fewP l = q := ⟨_, rfl⟩
  rw [hq] at he
  subst he
  cases q with
  | false =>
    clear hq
    go_wp2_with fail
    refine (awakeS_any _ (HV.out.to HB1.out)).mono ?_
    rintro e w2 ⟨rfl, hb2⟩
    have HB2 := Lib.hid (HB1.out.trans (hb2.mono HB1.out.size))
    clear hb2
    go_wp2_with fail
    go_ret
    exact ⟨rfl, HB2.out⟩
  | true =>
    have HFW := Lib.hid (fewP_hyp hq)
    clear hq
    go_wp2_with fail
    refine (scFormat_any l _ _ HRD1.out HFW.out.1 HFW.out.2 (HV.out.to HB1.out)).mono ?_
    rintro e w2 ⟨rfl, hb2⟩
    have HB2 := Lib.hid (HB1.out.trans (hb2.mono HB1.out.size))
    have HRD2 := Lib.hid (HRD1.out.next hb2)
    clear hb2
    go_wp2_with fail
    refine (validL_any l _ _ HRD2.out HFW.out.1 HFW.out.2).mono ?_
    rintro e w3 ⟨he, hb3⟩
    have HB3 := Lib.hid (HB2.out.trans (hb3.mono HB2.out.size))
    have HRD3 := Lib.hid (HRD2.out.next hb3)
    clear hb3
    obtain ⟨q, hq⟩ : ∃ q, validP l = q := ⟨_, rfl⟩
    rw [hq] at he
    subst he
    have hemp : validP l = false ∨ l.length = 0 → formatSc l = [] := by
      rintro (h | h)
      · rw [formatSc, if_neg (by rw [h]; decide)]
      · rw [List.length_eq_zero_iff.1 h, formatSc]; split <;> rfl
    cases q with
    | false =>
      rw [hemp (.inl hq)]
      have hs0 : (str []).toList.isEmpty = true := by rw [toList_bts, bts_str]; rfl
      clear hq hemp
      go_wp2_with fail
      refine (awakeS_any _ (HV.out.to HB3.out)).mono ?_
      rintro e w4 ⟨rfl, hb4⟩
      have HB4 := Lib.hid (HB3.out.trans (hb4.mono HB3.out.size))
      clear hb4
      go_wp2_with fail
      go_ret
      exact ⟨rfl, HB4.out⟩
    | true =>
      by_cases h0 : l.length = 0
      · have h0' : ((l.length : Int) == 0) = true := by rw [beq_iff_eq]; omega
        rw [hemp (.inr h0)]
        have hs0 : (str []).toList.isEmpty = true := by rw [toList_bts, bts_str]; rfl
        clear hq hemp h0
        go_wp2_with fail
        refine (awakeS_any _ (HV.out.to HB3.out)).mono ?_
        rintro e w4 ⟨rfl, hb4⟩
        have HB4 := Lib.hid (HB3.out.trans (hb4.mono HB3.out.size))
        clear hb4
        go_wp2_with fail
        go_ret
        exact ⟨rfl, HB4.out⟩
      · have h0' : ((l.length : Int) == 0) = false := by rw [beq_eq_false_iff_ne]; omega
        have hlen := formatSc_len hq
        have hge := hlen.2 (fun h => h0 (by rw [h]; rfl))
        have hle := hlen.1
        have HPA := Lib.hid (parseSc_format hq)
        obtain ⟨tt, ht⟩ : ∃ tt, formatSc l = tt := ⟨_, rfl⟩
        rw [ht] at hge hle HPA
        rw [ht]
        have hts : (str tt).size = tt.length := size_str _
        have hz1 : 1 ≤ (str tt).size := by omega
        have hz2 : (str tt).size ≤ 5600 := by omega
        clear hq hemp h0 hlen ht hts hge hle
        go_wp2_with fail
        refine (scParse_any (str tt) _ (by omega) (HV.out.to HB3.out)).mono ?_
        rintro e w4 ⟨v4, he, hrd4, hb4⟩
        rw [bts_str, HPA.out] at he hrd4
        simp only at he hrd4
        obtain ⟨A4, c4, rfl, _, _⟩ := hrd4.form
        subst he
        have HRD4 := Lib.hid hrd4
        have HRE4 := Lib.hid (HRD3.out.next hb4)
        have HB4 := Lib.hid (HB3.out.trans (hb4.mono HB3.out.size))
        clear hb4 hrd4
        go_wp2_with fail
        refine (sameScs_any l _ _ _ HRD4.out HRE4.out).mono ?_
        rintro e w5 ⟨rfl, hb5⟩
        have HB5 := Lib.hid (HB4.out.trans (hb5.mono HB4.out.size))
        clear hb5
        go_wp2_with fail
        refine (awakeS_any _ (HV.out.to HB5.out)).mono ?_
        rintro e w6 ⟨rfl, hb6⟩
        have HB6 := Lib.hid (HB5.out.trans (hb6.mono HB5.out.size))
        clear hb6
        go_wp2_with fail
        go_ret
        exact ⟨rfl, HB6.out⟩


set_option maxRecDepth 100000 in
set_option maxHeartbeats 1000000 in
theorem schedulePrinted_walk (s : ByteArray) (w : World) (hs : s.size ≤ 9223372036854775807) (hv : VarsS w) :
    Calls Tryd.prog 10 #[.string s] w (LawS w) := by
  have HV := Lib.hid hv
  clear hv
  by_cases h1 : 10000 < s.size
  · go_enter Tryd.func10, Tryd.ntmps10
    go_wp2_with fail
    refine (awakeS_any _ HV.out).mono ?_
    rintro e w2 ⟨rfl, hb2⟩
    have HB2 := Lib.hid hb2
    clear hb2
    go_wp2_with fail
    go_ret
    exact ⟨rfl, HB2.out⟩
  · go_enter Tryd.func10, Tryd.ntmps10
    go_wp2_with fail
    refine (scParse_any s _ hs HV.out).mono ?_
    rintro e w1 ⟨v1, he, hrd1, hb1⟩
    obtain ⟨l, er, at_, hp⟩ : ∃ l er at_, parseSc (bts s) = (l, er, at_) := ⟨_, _, _, rfl⟩
    rw [hp] at he hrd1
    simp only at he hrd1
    obtain ⟨A, c, rfl, _, _⟩ := hrd1.form
    subst he
    have HRD1 := Lib.hid hrd1
    have HB1 := Lib.hid hb1
    clear hb1 hrd1
    by_cases her : er = 0
    · subst her
      obtain ⟨rfl, hvl, xs, bs, hx, hf, hsame⟩ := parseSc_printed hp
      have hst := validP_stages hvl
      have hnm : ∀ x ∈ l, x.name.length ≤ 1000000 := fun x hx => by have := isNameP_len (checkSc_ok (validP_mem hvl x hx)).1; omega
      have hfl := (formatSc_len hvl).1
      have HX := Lib.hid hx
      have HF := Lib.hid hf
      have HSM := Lib.hid hsame
      have HVL := Lib.hid hvl
      have HST := Lib.hid hst
      have HNM := Lib.hid hnm
      clear hp hvl hx hf hsame hst hnm
      go_wp2_with fail
      refine (scan_any s _ hs).mono ?_
      rintro e w2 ⟨va, he, ho, hb2⟩
      rw [HX.out] at he ho
      simp only at he ho
      subst he
      have hra := rd_scan ho
      obtain ⟨A2, n2, c2, rfl⟩ := rdLx_form hra
      have HRA := Lib.hid hra
      have HRD2 := Lib.hid (HRD1.out.next hb2)
      have HB2 := Lib.hid (HB1.out.trans (hb2.mono HB1.out.size))
      clear hb2 ho hra
      go_wp2_with fail
      refine (scFormat_any l _ _ HRD2.out HST.out HNM.out (HV.out.to HB2.out)).mono ?_
      rintro e w3 ⟨rfl, hb3⟩
      have HRA3 := Lib.hid (rdLx_next HRA.out hb3)
      have HRD3 := Lib.hid (HRD2.out.next hb3)
      have HB3 := Lib.hid (HB2.out.trans (hb3.mono HB2.out.size))
      clear hb3
      go_wp2_with fail
      refine (scan_any (str (formatSc l)) _ (by rw [size_str]; omega)).mono ?_
      rintro e w4 ⟨vb, he, ho, hb4⟩
      rw [bts_str, HF.out] at he ho
      simp only at he ho
      subst he
      have hrb := rd_scan ho
      obtain ⟨A4, n4, c4, rfl⟩ := rdLx_form hrb
      have HRB := Lib.hid hrb
      have HRA4 := Lib.hid (rdLx_next HRA3.out hb4)
      have HRD4 := Lib.hid (HRD3.out.next hb4)
      have HB4 := Lib.hid (HB3.out.trans (hb4.mono HB3.out.size))
      clear hb4 ho hrb
      go_wp2_with fail
      refine (validL_any l _ _ HRD4.out HST.out HNM.out).mono ?_
      rintro e w5 ⟨he, hb5⟩
      rw [HVL.out] at he
      subst he
      have HRA5 := Lib.hid (rdLx_next HRA4.out hb5)
      have HRB5 := Lib.hid (rdLx_next HRB.out hb5)
      have HB5 := Lib.hid (HB4.out.trans (hb5.mono HB4.out.size))
      clear hb5
      go_wp2_with fail
      refine (same_any A2 A4 n2 n4 c2 c4 xs bs _ HRA5.out HRB5.out).mono ?_
      rintro e w6 ⟨he, hb6⟩
      rw [HSM.out] at he
      subst he
      have HB6 := Lib.hid (HB5.out.trans (hb6.mono HB5.out.size))
      clear hb6
      go_wp2_with fail
      refine (awakeS_any _ (HV.out.to HB6.out)).mono ?_
      rintro e w7 ⟨rfl, hb7⟩
      have HB7 := Lib.hid (HB6.out.trans (hb7.mono HB6.out.size))
      clear hb7
      go_wp2_with fail
      go_ret
      exact ⟨rfl, HB7.out⟩
    · obtain ⟨rfl, hat0, hat1⟩ := parseSc_bad hp her
      rw [← size_bts] at hat1
      have heb : (er != 0) = true := by rw [bne_iff_ne]; exact her
      have hl0 : (([] : List Sc).length : Int) = 0 := rfl
      clear hp her
      go_wp2_with fail
      refine (awakeS_any _ (HV.out.to HB1.out)).mono ?_
      rintro e w7 ⟨rfl, hb7⟩
      have HB7 := Lib.hid (HB1.out.trans (hb7.mono HB1.out.size))
      clear hb7
      go_wp2_with fail
      go_ret
      exact ⟨rfl, HB7.out⟩

end Go.Proofs.YtabdlldkkcjppaaDoor
