/-
  ProductJoins walked.
-/
import Derived.Test.YtokgonpeolppnaaDoorPrOpen
import Derived.Test.YtokgonpeolppnaaDoorPrY
import Derived.Test.YtokgonpeolppnaaDoorPrTi
import Derived.Test.YtokgonpeolppnaaDoorAppRow
namespace Go.Proofs.YtokgonpeolppnaaDoor
open Go.RowKit Saw Go.Sort

/-- The cells of products that are read: the slices in them are one cell each. -/
theorem prs_one {w : World} {B : Nat} {m : List (Pr × Value × Value)} (h : ∀ y ∈ m, RdI w B y.2.1 y.1.lens ∧ RdI w B y.2.2 y.1.prices) : ∀ u ∈ prsCells m, u.oneCell' = true := by
  intro u hu
  obtain ⟨y, hy, hu⟩ := List.mem_flatMap.1 hu
  obtain ⟨A1, c1, e1, _, _⟩ := (h y hy).1.form
  obtain ⟨A2, c2, e2, _, _⟩ := (h y hy).2.form
  rw [e1, e2] at hu
  exact List.all_eq_true.1 (pr_one y.1 rfl rfl) u hu

set_option maxRecDepth 100000 in
set_option maxHeartbeats 1000000 in
theorem productJoins_walk (s t : ByteArray) (w : World) (hs : s.size ≤ 9223372036854775807) (ht : t.size ≤ 9223372036854775807) (hv : VarsP w) :
    Calls Tryd.prog 9 #[.string s, .string t] w (LawP w) := by
  have HV := Lib.hid hv
  clear hv
  go_enter Tryd.func9, Tryd.ntmps9
  by_cases h1 : 3900 < s.size
  · go_wp2_with fail
    refine (awakeP_any _ HV.out).mono ?_
    rintro e w2 ⟨rfl, hb2⟩
    have HB2 := Lib.hid hb2
    clear hb2
    go_wp2_with fail
    go_ret
    exact ⟨rfl, HB2.out⟩
  · by_cases h2 : 3900 < t.size
    · go_wp2_with fail
      refine (awakeP_any _ HV.out).mono ?_
      rintro e w2 ⟨rfl, hb2⟩
      have HB2 := Lib.hid hb2
      clear hb2
      go_wp2_with fail
      go_ret
      exact ⟨rfl, HB2.out⟩
    · go_wp2_with fail
      refine (parse_pr s _ hs).mono ?_
      rintro e w1 ⟨va, he, hra, hb1⟩
      obtain ⟨a1, a2, a3, ha⟩ : ∃ a1 a2 a3, parsePr (bts s) = (a1, a2, a3) := ⟨_, _, _, rfl⟩
      rw [ha] at he hra
      subst he
      have HB1 := Lib.hid hb1
      have HRA1 := Lib.hid (show RdPr w1 w1.heap.size va a1 from hra)
      clear hb1 hra
      go_wp2_with fail
      refine (parse_pr t _ ht).mono ?_
      rintro e w2 ⟨vb, he, hrb, hb2⟩
      obtain ⟨b1, b2, b3, hb⟩ : ∃ b1 b2 b3, parsePr (bts t) = (b1, b2, b3) := ⟨_, _, _, rfl⟩
      rw [hb] at he hrb
      subst he
      have HB2 := Lib.hid (HB1.out.trans (hb2.mono HB1.out.size))
      have HRA2 := Lib.hid (HRA1.out.next hb2)
      have HRB2 := Lib.hid (show RdPr w2 w2.heap.size vb b1 from hrb)
      clear hb2 hrb HRA1
      by_cases ha2 : a2 = 0
      · subst ha2
        by_cases hb2 : b2 = 0
        · subst hb2
          have hsl : (bts s).length ≤ 3900 := by rw [← size_bts]; omega
          have htl : (bts t).length ≤ 3900 := by rw [← size_bts]; omega
          obtain ⟨hj1, hj2⟩ := parsePr_join ha hb hsl htl
          obtain ⟨_, hca, _, _⟩ := parsePr_inv ha
          obtain ⟨_, hcb, _, _⟩ := parsePr_inv hb
          have hla := (checkPr_ok hca).1
          have hlb := (checkPr_ok hcb).1
          have HJ1 := Lib.hid hj1
          have HJ2 := Lib.hid hj2
          have HNM := Lib.hid (show ∀ x ∈ a1 ++ b1, x.name.length ≤ 1000000 from fun x hx => by
            rcases List.mem_append.1 hx with hx | hx
            · have := (isNameP_len ((prCheck_mem hca) x hx).1).2; omega
            · have := (isNameP_len ((prCheck_mem hcb) x hx).1).2; omega)
          obtain ⟨ma, ma1, ma2, ma3⟩ := HRA2.out
          obtain ⟨mb, mb1, mb2, mb3⟩ := HRB2.out
          have hmal : ma.length = a1.length := by rw [← ma1, List.length_map]
          have hmbl : mb.length = b1.length := by rw [← mb1, List.length_map]
          have hma16 : ma.length ≤ 16 := by omega
          have hmb16 : mb.length ≤ 16 := by omega
          have HMA := Lib.hid (And.intro ma1 (And.intro ma2 ma3))
          have HMB := Lib.hid (And.intro mb1 (And.intro mb2 mb3))
          obtain ⟨i1, hi1, hy0, hy1, hy2⟩ := info_parts info_pr
          have HOWN0 := Lib.hid (show w2.ownsRow w2.heap.size 29 7 (.slice none 0 0) 0 [] from World.ownsRow_nil _ _ _ _)
          clear ha hb hj1 hj2 hca hcb ma1 ma2 ma3 mb1 mb2 mb3 hmal hmbl hla hlb
          have g1 : ¬ 9223372036854775807 < s.size + 1 := by omega
          have g2 : ¬ 9223372036854775807 < s.size + 1 + t.size := by omega
          go_wp2_with (first
            | (at_builtin; refine wpList_append_rows _ (by rfl) (.tmp 43) (.tmp 44) 22 (by rfl) w2.heap.size 29 i1 _ 7 96 Tryd.underlying22 hi1 hy0 hy1 hy2 rfl (by omega) (.slice none 0 0) 0 [] (by rfl) HOWN0.out va (by rfl) ma.length w2.heap.size (prsCells ma) HMA.out.2.1 (prs_one HMA.out.2.2) (by simp only [maxLen]; omega) (by omega) (Nat.le_refl _) ?_; intro v5 w5 hown5 hg5; have hb5 : Below w2.heap.size w2 w5 := (Below.refl _ _).grown hg5 (Nat.le_refl _) (fun g hg => by cases hg); have HOWN5 := Lib.hid hown5; have HB5 := Lib.hid hb5; clear hown5 hg5 hb5)
            | (at_builtin; refine wpList_append_rows _ (by rfl) (.tmp 46) (.tmp 47) 22 (by rfl) w2.heap.size 29 i1 _ 7 96 Tryd.underlying22 hi1 hy0 hy1 hy2 rfl (by omega) v5 (0 + ma.length) ([] ++ prsCells ma) (by rfl) HOWN5.out vb (by rfl) mb.length w2.heap.size (prsCells mb) (HMB.out.2.1.below HB5.out) (prs_one HMB.out.2.2) (by simp only [maxLen]; omega) (by omega) HB5.out.size ?_; intro v6 w6 hown6 hg6; have hb6 : Below w2.heap.size w2 w6 := HB5.out.grown hg6 HB5.out.size (fun g hg => (HOWN5.out.lt g hg).1); have HOWN6 := Lib.hid hown6; have HB6 := Lib.hid hb6; clear hown6 hg6 hb6))
          obtain ⟨L, hL⟩ : ∃ L, a1 ++ b1 = L := ⟨_, rfl⟩
          rw [hL] at HJ1 HJ2 HNM
          have HRL6 := Lib.hid (show RdPr w6 w6.heap.size v6 L by
            rw [← hL]
            refine ⟨ma ++ mb, by rw [List.map_append, HMA.out.1, HMB.out.1], ?_, ?_⟩
            · have h9 := Rd.of_own HOWN6.out
              rw [Nat.zero_add, List.nil_append] at h9
              rw [List.length_append, prsCells, List.flatMap_append]
              exact h9
            · intro y hy
              rcases List.mem_append.1 hy with hy | hy
              · exact ⟨((HMA.out.2.2 y hy).1.below HB6.out).more HB6.out.size, ((HMA.out.2.2 y hy).2.below HB6.out).more HB6.out.size⟩
              · exact ⟨((HMB.out.2.2 y hy).1.below HB6.out).more HB6.out.size, ((HMB.out.2.2 y hy).2.below HB6.out).more HB6.out.size⟩)
          have HBW6 := Lib.hid (HB2.out.trans (HB6.out.mono HB2.out.size))
          obtain ⟨A6, c6, hv6, _, _⟩ := HRL6.out.form
          subst hv6
          have hst : bts (s ++ ⟨#[10]⟩ ++ t) = bts s ++ 10 :: bts t := by rw [bts_append, bts_append]; show bts s ++ [10] ++ bts t = _; simp
          refine (parse_pr _ _ (by rw [size_bts, hst, List.length_append, List.length_cons]; omega)).mono ?_
          rintro e w7 ⟨vc, he, hrc, hb7⟩
          rw [hst] at he hrc
          obtain ⟨p1, p2, p3, hp⟩ : ∃ p1 p2 p3, parsePr (bts s ++ 10 :: bts t) = (p1, p2, p3) := ⟨_, _, _, rfl⟩
          rw [hp] at he hrc HJ1 HJ2
          subst he
          have HB7 := Lib.hid (HBW6.out.trans (hb7.mono HBW6.out.size))
          have HRL7 := Lib.hid (HRL6.out.next hb7)
          have HRC7 := Lib.hid (show RdPr w7 w7.heap.size vc p1 from hrc)
          obtain ⟨A7, c7, hv7, _, hml7⟩ := HRC7.out.form
          subst hv7
          unfold maxLen at hml7
          clear hL hb7 hrc hst HOWN5 HOWN6 HB5 HB6 HRL6 HMA HMB
          go_wp2_with fail
          refine (prCheck_any L _ _ HRL7.out HNM.out).mono ?_
          rintro e w8 ⟨he, hb8⟩
          obtain ⟨q, hq⟩ : ∃ q, checkPr L = q := ⟨_, rfl⟩
          rw [hq] at he HJ1 HJ2
          subst he
          have HB8 := Lib.hid (HB7.out.trans (hb8.mono HB7.out.size))
          have HRL8 := Lib.hid (HRL7.out.next hb8)
          have HRC8 := Lib.hid (HRC7.out.next hb8)
          clear hb8 hq hp
          by_cases hq0 : q = 0
          · subst hq0
            have h9 := HJ1.out rfl
            simp only [Prod.mk.injEq] at h9
            obtain ⟨rfl, rfl, rfl⟩ := h9
            go_wp2_with fail
            refine (same_any p1 _ _ _ HRC8.out HRL8.out).mono ?_
            rintro e w9 ⟨rfl, hb9⟩
            have HB9 := Lib.hid (HB8.out.trans (hb9.mono HB8.out.size))
            clear hb9
            go_wp2_with fail
            refine (awakeP_any _ (HV.out.below HB9.out)).mono ?_
            rintro e wA ⟨rfl, hbA⟩
            have HBA := Lib.hid (HB9.out.trans (hbA.mono HB9.out.size))
            clear hbA
            go_wp2_with fail
            go_ret
            exact ⟨rfl, HBA.out⟩
          · obtain ⟨er, aa, her, h9⟩ := HJ2.out hq0
            simp only [Prod.mk.injEq] at h9
            obtain ⟨rfl, rfl, rfl⟩ := h9
            have hqb : (q != 0) = true := by rw [bne_iff_ne]; exact hq0
            have heb : (p2 != 0) = true := by rw [bne_iff_ne]; exact her
            clear hq0 her
            go_wp2_with fail
            refine (awakeP_any _ (HV.out.below HB8.out)).mono ?_
            rintro e wA ⟨rfl, hbA⟩
            have HBA := Lib.hid (HB8.out.trans (hbA.mono HB8.out.size))
            clear hbA
            go_wp2_with fail
            go_ret
            exact ⟨rfl, HBA.out⟩
        · have hqb : (b2 != 0) = true := by rw [bne_iff_ne]; exact hb2
          clear hb2 ha hb
          go_wp2_with fail
          refine (awakeP_any _ (HV.out.below HB2.out)).mono ?_
          rintro e wA ⟨rfl, hbA⟩
          have HBA := Lib.hid (HB2.out.trans (hbA.mono HB2.out.size))
          clear hbA
          go_wp2_with fail
          go_ret
          exact ⟨rfl, HBA.out⟩
      · have hqb : (a2 != 0) = true := by rw [bne_iff_ne]; exact ha2
        clear ha2 ha hb
        go_wp2_with fail
        refine (awakeP_any _ (HV.out.below HB2.out)).mono ?_
        rintro e wA ⟨rfl, hbA⟩
        have HBA := Lib.hid (HB2.out.trans (hbA.mono HB2.out.size))
        clear hbA
        go_wp2_with fail
        go_ret
        exact ⟨rfl, HBA.out⟩

end Go.Proofs.YtokgonpeolppnaaDoor
