/-
  WoodPrinted walked.
-/
import Derived.Test.YtadflenmdfcflaaDoorWLaw4
import Derived.Test.YtadflenmdfcflaaDoorWoodU
import Derived.Test.YtadflenmdfcflaaDoorLexG
namespace Go.Proofs.YtadflenmdfcflaaDoor
open Go.RowKit Saw Go.Sort

set_option maxRecDepth 100000 in
set_option maxHeartbeats 2000000 in
theorem woodPrinted_walk (s : ByteArray) (w : World) (hs : s.size ≤ maxLen) (hv : Vars w) :
    Calls Tryd.prog 10 #[.string s] w (LawPost w) := by
  have hs1 : s.size ≤ 9223372036854775807 := by unfold maxLen at hs; omega
  have HV := Lib.hid hv
  clear hv hs
  by_cases hlt : 10000 < s.size
  · go_enter Tryd.func10, Tryd.ntmps10
    go_wp2_with fail
    refine (awake_any _ HV.out).mono ?_
    rintro e w1 ⟨rfl, hb1⟩
    have HB1 := Lib.hid hb1
    clear hb1
    go_wp2_with fail
    go_ret
    exact ⟨rfl, HB1.out⟩
  · obtain ⟨l, er, at_, hr⟩ : ∃ l er at_, parseSp (bts s) = (l, er, at_) := ⟨_, _, _, rfl⟩
    have HR := Lib.hid hr
    clear hr
    go_enter Tryd.func10, Tryd.ntmps10
    go_wp2_with fail
    refine (parse_any s _ hs1 HV.out.1 (Nat.lt_of_lt_of_le (by decide) HV.out.2.2)).mono ?_
    rintro e w1 ⟨v1, he, ho1, hb1⟩
    rw [HR.out] at he ho1
    subst he
    have HO1 := Lib.hid (show RdSp w1 v1 l from Rd.of_own ho1)
    have HB1 := Lib.hid hb1
    have hsz1 := hb1.size
    clear ho1 hb1
    obtain ⟨A1, c1, rfl, hc1, hm1⟩ := HO1.out.form
    by_cases her : er = 0
    · subst her
      obtain ⟨rfl, hck, xs, bs, hx, hbs, hsame⟩ := parse_printed HR.out
      have HCK := Lib.hid hck
      have HX := Lib.hid hx
      have HBS := Lib.hid hbs
      have HSAME := Lib.hid hsame
      have HNM := Lib.hid (show ∀ x ∈ l, x.name.length ≤ 1000000 from fun x hx => Nat.le_trans (isNameP_len (check_mem hck x hx).1).2 (by omega))
      have hfl := (format_len hck).1
      obtain ⟨r, hr⟩ : ∃ r, formatSp l = r := ⟨_, rfl⟩
      rw [hr] at hfl
      have hrs : (str r).size ≤ 9223372036854775807 := by rw [size_str]; omega
      have HRF := Lib.hid hr
      clear hck hx hbs hsame hr hfl
      go_wp2_with fail
      refine (scan_any s _ hs1).mono ?_
      rintro e w2 ⟨v2, he, ho2, hb2⟩
      rw [HX.out] at he ho2
      subst he
      have HO2 := Lib.hid (show RdLx w2 v2 xs from Rd.of_own ho2)
      have HB2 := Lib.hid (HB1.out.trans (hb2.mono hsz1))
      have HR2 := Lib.hid (HO1.out.next hb2)
      have hsz2 := Nat.le_trans hsz1 hb2.size
      clear ho2 hb2
      obtain ⟨A2, c2, rfl, hc2, hm2⟩ := HO2.out.form
      go_wp2_with fail
      refine (format_any l _ _ HR2.out HNM.out (HV.out.below HB2.out).1 (HV.out.below HB2.out).2.1 (HV.out.below HB2.out).2.2).mono ?_
      rintro e w3 ⟨he, hb3⟩
      rw [HRF.out] at he
      subst he
      have HB3 := Lib.hid (HB2.out.trans (hb3.mono hsz2))
      have HR3 := Lib.hid (HR2.out.next hb3)
      have HO3 := Lib.hid (HO2.out.next hb3)
      have hsz3 := Nat.le_trans hsz2 hb3.size
      clear hb3
      go_wp2_with fail
      refine (scan_any (str r) _ hrs).mono ?_
      rintro e w4 ⟨v4, he, ho4, hb4⟩
      rw [bts_str, ← HRF.out, HBS.out] at he ho4
      subst he
      have HO4 := Lib.hid (show RdLx w4 v4 bs from Rd.of_own ho4)
      have HB4 := Lib.hid (HB3.out.trans (hb4.mono hsz3))
      have HR4 := Lib.hid (HR3.out.next hb4)
      have HO2b := Lib.hid (HO3.out.next hb4)
      have hsz4 := Nat.le_trans hsz3 hb4.size
      clear ho4 hb4
      obtain ⟨A4, c4, rfl, hc4, hm4⟩ := HO4.out.form
      go_wp2_with fail
      refine (check_any l _ _ HR4.out HNM.out).mono ?_
      rintro e w5 ⟨he, hb5⟩
      rw [HCK.out] at he
      subst he
      have HB5 := Lib.hid (HB4.out.trans (hb5.mono hsz4))
      have HO5 := Lib.hid (HO2b.out.next hb5)
      have HO5b := Lib.hid (HO4.out.next hb5)
      have hsz5 := Nat.le_trans hsz4 hb5.size
      clear hb5
      go_wp2_with fail
      refine (same_any _ _ _ _ _ _ xs bs _ HO5.out HO5b.out).mono ?_
      rintro e w6 ⟨he, hb6⟩
      rw [HSAME.out] at he
      subst he
      have HB6 := Lib.hid (HB5.out.trans (hb6.mono hsz5))
      have hsz6 := Nat.le_trans hsz5 hb6.size
      clear hb6
      go_wp2_with fail
      refine (awake_any _ (HV.out.below HB6.out)).mono ?_
      rintro e w7 ⟨rfl, hb7⟩
      have HB7 := Lib.hid (HB6.out.trans (hb7.mono hsz6))
      clear hb7
      go_wp2_with fail
      go_ret
      exact ⟨rfl, HB7.out⟩
    · have hen : (er != 0) = true := by rw [bne_iff_ne]; exact her
      obtain ⟨rfl, ha0, ha1⟩ := parse_bad HR.out her
      rw [← size_bts] at ha1
      clear her
      go_wp2_with fail
      refine (awake_any _ (HV.out.below HB1.out)).mono ?_
      rintro e w5 ⟨rfl, hb5⟩
      have HB5 := Lib.hid (HB1.out.trans (hb5.mono hsz1))
      clear hb5
      go_wp2_with fail
      go_ret
      exact ⟨rfl, HB5.out⟩

end Go.Proofs.YtadflenmdfcflaaDoor
