/-
  WoodBack walked.
-/
import Derived.Test.YtadflenmdfcflaaDoorWLaw4
import Derived.Test.YtadflenmdfcflaaDoorWRefZ
import Derived.Test.YtadflenmdfcflaaDoorWoodU
namespace Go.Proofs.YtadflenmdfcflaaDoor
open Go.RowKit Saw Go.Sort

set_option maxRecDepth 100000 in
set_option maxHeartbeats 2000000 in
theorem woodBack_walk (A : Option Addr) (n c : Nat) (l : List Sp) (w : World) (h : RdSp w (.slice A n c) l ∧ ∀ x ∈ l, SpOk x) (hv : Vars w) :
    Calls Tryd.prog 7 #[.slice A n c] w (LawPost w) := by
  obtain ⟨hrd, hok⟩ := h
  obtain ⟨_, _, he, hc, hml⟩ := hrd.form
  injection he with e1 e2 e3
  subst e1 e2 e3
  unfold maxLen at hml
  have HRD := Lib.hid hrd
  have HOK := Lib.hid (show ∀ x ∈ l, x.name.length ≤ 9223372036854775807 from fun x hx => by have := (hok x hx).1; unfold maxLen at this; omega)
  have HV := Lib.hid hv
  clear hrd hok hv
  go_enter Tryd.func7, Tryd.ntmps7
  go_wp2_with fail
  refine (small_any _ _ _ l _ HRD.out HOK.out).mono ?_
  rintro e w0 ⟨he, rfl⟩
  cases hsm : smallP l with
  | false =>
    rw [hsm] at he
    subst he
    clear hsm
    go_wp2_with fail
    refine (awake_any _ HV.out).mono ?_
    rintro e w1 ⟨rfl, hb1⟩
    have HB1 := Lib.hid hb1
    clear hb1
    go_wp2_with fail
    go_ret
    exact ⟨rfl, HB1.out⟩
  | true =>
    rw [hsm] at he
    subst he
    obtain ⟨h20, hnm⟩ := small_names hsm
    have HNM := Lib.hid (show ∀ x ∈ l, x.name.length ≤ 1000000 from fun x hx => Nat.le_trans (hnm x hx) (by omega))
    obtain ⟨r, hr⟩ : ∃ r, formatSp l = r := ⟨_, rfl⟩
    have HR := Lib.hid hr
    obtain ⟨q, hq⟩ : ∃ q, checkSp l = q := ⟨_, rfl⟩
    have HQ := Lib.hid hq
    clear hsm hnm hr hq
    go_wp2_with fail
    refine (format_any l _ _ HRD.out HNM.out HV.out.1 HV.out.2.1 HV.out.2.2).mono ?_
    rintro e w1 ⟨he, hb1⟩
    rw [HR.out] at he
    have HB1 := Lib.hid hb1
    have hsz1 := hb1.size
    clear hb1
    by_cases hbad : q = 0 ∧ l.length ≠ 0
    · obtain ⟨rfl, hl0⟩ := hbad
      subst he
      have hfl := format_len HQ.out
      rw [HR.out] at hfl
      have hz1 : 0 < (str r).size := by rw [size_str]; exact hfl.2 (fun h0 => hl0 (by rw [h0]; rfl))
      have hz2 : (str r).size ≤ 8000 := by rw [size_str]; omega
      have hlb : ((l.length : Int) == 0) = false := by rw [beq_eq_false_iff_ne]; omega
      have HP := Lib.hid (show parseSp (bts (str r)) = (l, 0, 0) by rw [bts_str, ← HR.out]; exact parse_format HQ.out)
      clear hfl hl0
      go_wp2_with fail
      refine (check_any l _ _ (HRD.out.next HB1.out) HNM.out).mono ?_
      rintro e w2 ⟨he, hb2⟩
      rw [HQ.out] at he
      subst he
      have HB2 := Lib.hid (HB1.out.trans (hb2.mono hsz1))
      have hsz2 := Nat.le_trans hsz1 hb2.size
      clear hb2
      go_wp2_with fail
      refine (parse_any (str r) _ (by omega) (HV.out.below HB2.out).1 (Nat.lt_of_lt_of_le (by decide) (HV.out.below HB2.out).2.2)).mono ?_
      rintro e w3 ⟨v3, he, ho3, hb3⟩
      rw [HP.out] at he ho3
      subst he
      have HO3 := Lib.hid ho3
      have HB3 := Lib.hid (HB2.out.trans (hb3.mono hsz2))
      have hsz3 := Nat.le_trans hsz2 hb3.size
      clear hb3 ho3
      go_wp2_with fail
      refine (refSame_any l l v3 _ _ (Rd.of_own HO3.out) (HRD.out.next HB3.out)).mono ?_
      rintro e w4 ⟨he, hb4⟩
      rw [decide_eq_true rfl] at he
      subst he
      have HB4 := Lib.hid (HB3.out.trans (hb4.mono hsz3))
      have hsz4 := Nat.le_trans hsz3 hb4.size
      clear hb4
      go_wp2_with fail
      refine (awake_any _ (HV.out.below HB4.out)).mono ?_
      rintro e w5 ⟨rfl, hb5⟩
      have HB5 := Lib.hid (HB4.out.trans (hb5.mono hsz4))
      clear hb5
      go_wp2_with fail
      go_ret
      exact ⟨rfl, HB5.out⟩
    · have hr0 : r = [] := by
        rw [← HR.out, formatSp]
        by_cases hq0 : checkSp l = 0
        · rw [if_pos hq0]
          have : l.length = 0 := by
            rw [HQ.out] at hq0
            by_cases h0 : l.length = 0
            · exact h0
            · exact absurd ⟨hq0, h0⟩ hbad
          rw [List.length_eq_zero_iff.1 this]
          rfl
        · rw [if_neg hq0]
      subst hr0
      rw [show str [] = (⟨#[]⟩ : ByteArray) from rfl] at he
      subst he
      by_cases hq0 : q = 0
      · subst hq0
        have hlb : l.length = 0 := by
          by_cases h0 : l.length = 0
          · exact h0
          · exact absurd ⟨rfl, h0⟩ hbad
        have hlc : ((l.length : Int) == 0) = true := by rw [hlb]; rfl
        clear hbad hlb
        go_wp2_with fail
        refine (check_any l _ _ (HRD.out.next HB1.out) HNM.out).mono ?_
        rintro e w2 ⟨he, hb2⟩
        rw [HQ.out] at he
        subst he
        have HB2 := Lib.hid (HB1.out.trans (hb2.mono hsz1))
        have hsz2 := Nat.le_trans hsz1 hb2.size
        clear hb2
        go_wp2_with fail
        refine (awake_any _ (HV.out.below HB2.out)).mono ?_
        rintro e w5 ⟨rfl, hb5⟩
        have HB5 := Lib.hid (HB2.out.trans (hb5.mono hsz2))
        clear hb5
        go_wp2_with fail
        go_ret
        exact ⟨rfl, HB5.out⟩
      · have hqb : (q != 0) = true := by rw [bne_iff_ne]; exact hq0
        clear hbad hq0
        go_wp2_with fail
        refine (check_any l _ _ (HRD.out.next HB1.out) HNM.out).mono ?_
        rintro e w2 ⟨he, hb2⟩
        rw [HQ.out] at he
        subst he
        have HB2 := Lib.hid (HB1.out.trans (hb2.mono hsz1))
        have hsz2 := Nat.le_trans hsz1 hb2.size
        clear hb2
        go_wp2_with fail
        refine (awake_any _ (HV.out.below HB2.out)).mono ?_
        rintro e w5 ⟨rfl, hb5⟩
        have HB5 := Lib.hid (HB2.out.trans (hb5.mono hsz2))
        clear hb5
        go_wp2_with fail
        go_ret
        exact ⟨rfl, HB5.out⟩

end Go.Proofs.YtadflenmdfcflaaDoor
