/-
  BillAdds walked.
-/
import Derived.Test.YtdbkdneolcgfjaaDoorBillOpen
import Derived.Test.YtdbkdneolcgfjaaDoorBillQ
import Derived.Test.YtdbkdneolcgfjaaDoorAppRow
import Derived.Deep.RegionHeldLaw
namespace Go.Proofs.YtdbkdneolcgfjaaDoor
open Go.RowKit Saw Go.Sort

theorem rdti_nil (w : World) (B : Nat) : RdTi w B (.slice none 0 0) [] := Rd.none_
theorem mem_it (l : List It) : ∀ u ∈ l.flatMap itCells, u.oneCell' = true := by
  intro u hu
  obtain ⟨i, _, hi⟩ := List.mem_flatMap.1 hu
  simp only [itCells, List.mem_cons, List.not_mem_nil, or_false] at hi
  rcases hi with rfl | rfl | rfl | rfl <;> rfl
theorem kk_call6 {A W W' : World} (h : Below A.heap.size A W) (h2 : Below W.heap.size W W') : Below A.heap.size A W' := h.trans (h2.mono h.size)
theorem forgetK6 {A W : World} {P : World → Prop} (hS : Below A.heap.size A W) (h : ∀ W, Below A.heap.size A W → P W) : P W := h W hS
theorem total_bd (c : List Pr) (l : List It) (t : List Ti) : 0 ≤ (totalP c l t).1 ∧ (totalP c l t).1 ≤ 48000000000000 := by
  obtain ⟨h1, h2, h3, h4⟩ := sums_bd c l t
  rw [totalP]
  exact ⟨by show 0 ≤ (sumsP c l t).2.1 - (sumsP c l t).2.2.1; omega, by show (sumsP c l t).2.1 - (sumsP c l t).2.2.1 ≤ _; omega⟩
theorem info_Bit : (Tryd.prog.info? 28).map (fun i => (i.zero, i.size, i.bytes)) = some (some (.agg #[.int .i64 0, .int .i64 0, .int .i64 0, .int .i64 0]), 4, 32) := by kernel_rfl

set_option maxRecDepth 100000 in
set_option maxHeartbeats 1000000 in
theorem billAdds_walk (c : List Pr) (l : List It) (t : List Ti) (Ac Al At : Option Addr) (cc cl ct : Nat) (ot : List It) (Ao : Option Addr) (co : Nat) (w : World) (h : InvOk w c l t Ac Al At cc cl ct) (ho : RdIt w w.heap.size (.slice Ao ot.length co) ot) (hv : VarsB w) :
    Calls Tryd.prog 8 #[.agg #[.slice Ac c.length cc, .slice Al l.length cl, .slice At t.length ct], .slice Ao ot.length co] w (LawB w) := by
  obtain ⟨hc, hl, ht, hn⟩ := h
  obtain ⟨W0, hW0⟩ : ∃ W0, w.alloc (.cells #[.slice Ac c.length cc, .slice Al l.length cl, .slice At t.length ct] 26) = W0 := ⟨_, rfl⟩
  have s0 : W0.heap.size = w.heap.size + 1 := by rw [← hW0, World.size_alloc]
  have b0 : Below w.heap.size w W0 := by rw [← hW0]; exact (Below.refl _ _).alloc (Nat.le_refl _) _
  have g0 : W0.heap[w.heap.size]? = some (.cells #[.slice Ac c.length cc, .slice Al l.length cl, .slice At t.length ct] 26 (0, 0)) := by rw [← hW0]; exact heap_alloc_last w _
  have p0 : W0.cell? ⟨w.heap.size, 0, none⟩ = some (.slice Ac c.length cc) := cell_of_box g0 rfl
  have p1 : W0.cell? ⟨w.heap.size, 1, none⟩ = some (.slice Al l.length cl) := cell_of_box g0 rfl
  have p2 : W0.cell? ⟨w.heap.size, 2, none⟩ = some (.slice At t.length ct) := cell_of_box g0 rfl
  obtain ⟨_, _, _, _, hl1⟩ := hl.form
  obtain ⟨_, _, _, _, ht1⟩ := ht.form
  have HC0 := Lib.hid (hc.next b0)
  have HI0 := Lib.hid (show RdIt W0 W0.heap.size _ l from Rd.next hl b0)
  have HT0 := Lib.hid (show RdTi W0 W0.heap.size _ t from Rd.next ht b0)
  have HO0 := Lib.hid (show RdIt W0 W0.heap.size _ ot from Rd.next ho b0)
  obtain ⟨_, _, _, _, ho1⟩ := ho.form
  unfold maxLen at ho1
  have HB0 := Lib.hid b0
  have HV := Lib.hid hv
  have HN := Lib.hid (show ∀ x ∈ c, x.name.length ≤ 9223372036854775807 from fun x hx => by have := hn x hx; unfold maxLen at this; omega)
  have HW0 := Lib.hid hW0
  have HL1 := Lib.hid hl1
  have HT1 := Lib.hid ht1
  clear hc hl ht hn hv ho b0 g0 hW0 hl1 ht1
  go_enter Tryd.func8, Tryd.ntmps8
  go_wp2_with fail
  rw [HW0.out]
  refine (smallB_any c l t Ac Al At cc cl ct _ HC0.out HL1.out HT1.out HN.out).mono ?_
  rintro e w1 ⟨he, hb⟩
  have HB := Lib.hid (HB0.out.trans (hb.mono HB0.out.size))
  have hsz1 := HB.out.size
  have hs1 : w.heap.size + 1 ≤ w1.heap.size := by have := hb.size; omega
  have r0 : w1.cell? ⟨w.heap.size, 0, none⟩ = some (.slice Ac c.length cc) := (hb.cell (p := ⟨w.heap.size, 0, none⟩) (by show w.heap.size < _; omega)).trans p0
  have r1 : w1.cell? ⟨w.heap.size, 1, none⟩ = some (.slice Al l.length cl) := (hb.cell (p := ⟨w.heap.size, 1, none⟩) (by show w.heap.size < _; omega)).trans p1
  have r2 : w1.cell? ⟨w.heap.size, 2, none⟩ = some (.slice At t.length ct) := (hb.cell (p := ⟨w.heap.size, 2, none⟩) (by show w.heap.size < _; omega)).trans p2
  have HC1 := Lib.hid (HC0.out.next hb)
  have HO1 := Lib.hid (show RdIt w1 w1.heap.size _ ot from Rd.next HO0.out hb)
  have HI1 := Lib.hid (show RdIt w1 w1.heap.size _ l from Rd.next HI0.out hb)
  have HT1' := Lib.hid (show RdTi w1 w1.heap.size _ t from Rd.next HT0.out hb)
  clear hb p0 p1 p2 HC0 HI0 HT0 HO0 HB0 HW0
  cases hsm : smallB c l t with
  | false =>
    rw [hsm] at he
    subst he
    clear hsm
    go_wp2_with fail
    refine (awakeB_any _ (HV.out.below HB.out)).mono ?_
    rintro e w2 ⟨rfl, hb2⟩
    have HB2 := Lib.hid (HB.out.trans (hb2.mono hsz1))
    clear hb2
    go_wp2_with fail
    go_ret
    exact ⟨rfl, HB2.out⟩
  | true =>
    rw [hsm] at he
    subst he
    obtain ⟨_, hl100, ht30, hnm⟩ := smallB_names hsm
    have HNM := Lib.hid hnm
    clear hsm hnm
    by_cases g1 : 100 < ot.length
    · go_wp2_with fail
      refine (awakeB_any _ (HV.out.below HB.out)).mono ?_
      rintro e w9 ⟨rfl, hb9⟩
      have HB9 := Lib.hid (HB.out.trans (hb9.mono hsz1))
      clear hb9
      go_wp2_with fail
      go_ret
      exact ⟨rfl, HB9.out⟩
    · obtain ⟨a, e0, ha⟩ : ∃ a e0, totalP c l [] = (a, e0) := ⟨_, _, rfl⟩
      obtain ⟨b, f0, hbb⟩ : ∃ b f0, totalP c ot [] = (b, f0) := ⟨_, _, rfl⟩
      have HA := Lib.hid ha
      have HBB := Lib.hid hbb
      have hot : ot.length ≤ 100 := by omega
      clear g1 ha hbb
      go_wp2_with fail
      refine (total_any c l [] _ _ _ _ HC1.out HNM.out HI1.out (rdti_nil _ _)).mono ?_
      rintro e w2 ⟨he, hb2⟩
      rw [HA.out] at he
      subst he
      have HB2 := Lib.hid (HB.out.trans (hb2.mono hsz1))
      have hsz2 := HB2.out.size
      have hs2 : w.heap.size + 1 ≤ w2.heap.size := Nat.le_trans hs1 hb2.size
      have HC2 := Lib.hid (HC1.out.next hb2)
      have HI2 := Lib.hid (show RdIt w2 w2.heap.size _ l from Rd.next HI1.out hb2)
      have HO2 := Lib.hid (show RdIt w2 w2.heap.size _ ot from Rd.next HO1.out hb2)
      have HT2 := Lib.hid (show RdTi w2 w2.heap.size _ t from Rd.next HT1'.out hb2)
      have u0 : w2.cell? ⟨w.heap.size, 0, none⟩ = some (.slice Ac c.length cc) := (hb2.cell (p := ⟨w.heap.size, 0, none⟩) (by show w.heap.size < _; omega)).trans r0
      have u1 : w2.cell? ⟨w.heap.size, 1, none⟩ = some (.slice Al l.length cl) := (hb2.cell (p := ⟨w.heap.size, 1, none⟩) (by show w.heap.size < _; omega)).trans r1
      have u2 : w2.cell? ⟨w.heap.size, 2, none⟩ = some (.slice At t.length ct) := (hb2.cell (p := ⟨w.heap.size, 2, none⟩) (by show w.heap.size < _; omega)).trans r2
      clear hb2 r0 r1 r2
      go_wp2_with fail
      refine (total_any c ot [] _ _ _ _ HC2.out HNM.out HO2.out (rdti_nil _ _)).mono ?_
      rintro e w3 ⟨he, hb3⟩
      rw [HBB.out] at he
      subst he
      have HB3 := Lib.hid (HB2.out.trans (hb3.mono hsz2))
      have hsz3 := HB3.out.size
      have hs3 : w.heap.size + 1 ≤ w3.heap.size := Nat.le_trans hs2 hb3.size
      have HC3 := Lib.hid (HC2.out.next hb3)
      have HI3 := Lib.hid (show RdIt w3 w3.heap.size _ l from Rd.next HI2.out hb3)
      have HO3 := Lib.hid (show RdIt w3 w3.heap.size _ ot from Rd.next HO2.out hb3)
      have HT3 := Lib.hid (show RdTi w3 w3.heap.size _ t from Rd.next HT2.out hb3)
      have v0 : w3.cell? ⟨w.heap.size, 0, none⟩ = some (.slice Ac c.length cc) := (hb3.cell (p := ⟨w.heap.size, 0, none⟩) (by show w.heap.size < _; omega)).trans u0
      have v1 : w3.cell? ⟨w.heap.size, 1, none⟩ = some (.slice Al l.length cl) := (hb3.cell (p := ⟨w.heap.size, 1, none⟩) (by show w.heap.size < _; omega)).trans u1
      have v2 : w3.cell? ⟨w.heap.size, 2, none⟩ = some (.slice At t.length ct) := (hb3.cell (p := ⟨w.heap.size, 2, none⟩) (by show w.heap.size < _; omega)).trans u2
      clear hb3 u0 u1 u2
      by_cases hz : e0 = 0
      · subst hz
        by_cases hy : f0 = 0
        · subst hy
          obtain ⟨i0, hi0, hq0, hq1, hq2⟩ := info_parts info_Bit
          obtain ⟨cv, gv, hcv⟩ : ∃ cv gv, totalP c (l ++ ot) [] = (cv, gv) := ⟨_, _, rfl⟩
          have HCV := Lib.hid hcv
          have HAD := Lib.hid (show l.length + ot.length ≤ 32 → gv = 0 ∧ cv = a + b from fun h9 => by have h8 := total_adds HA.out HBB.out h9; rw [hcv] at h8; simp only [Prod.mk.injEq] at h8; exact ⟨h8.2, h8.1⟩)
          have HK : Hid (∀ W, Below w3.heap.size w3 W → W.cell? ⟨w.heap.size, 0, none⟩ = some (.slice Ac c.length cc) ∧ W.cell? ⟨w.heap.size, 1, none⟩ = some (.slice Al l.length cl) ∧ W.cell? ⟨w.heap.size, 2, none⟩ = some (.slice At t.length ct) ∧ Below w3.heap.size w3 W) := fun W hW => ⟨(hW.cell (p := ⟨w.heap.size, 0, none⟩) (by show w.heap.size < _; omega)).trans v0, (hW.cell (p := ⟨w.heap.size, 1, none⟩) (by show w.heap.size < _; omega)).trans v1, (hW.cell (p := ⟨w.heap.size, 2, none⟩) (by show w.heap.size < _; omega)).trans v2, hW⟩
          have HIW : Hid (∀ W, Below w3.heap.size w3 W → RdIt W W.heap.size (.slice Al l.length cl) l) := fun W hW => Rd.next HI3.out hW
          have HOW : Hid (∀ W, Below w3.heap.size w3 W → RdIt W W.heap.size (.slice Ao ot.length co) ot) := fun W hW => Rd.next HO3.out hW
          have HCW : Hid (∀ W, Below w3.heap.size w3 W → RdPr W W.heap.size (.slice Ac c.length cc) c) := fun W hW => HC3.out.next hW
          clear hcv
          go_wp2_with fail
          have HX0 := Lib.hid ((Below.refl w3.heap.size w3).alloc (Nat.le_refl _) (.cells #[] 28))
          have HOWN0 := Lib.hid (show (w3.alloc (.cells #[] 28)).ownsRow w3.heap.size 28 4 (.slice (some ⟨w3.heap.size, 0, none⟩) 0 0) 0 [] from ownsRow_new (cs := []) (Nat.le_refl _) rfl (by decide))
          go_region_held_law (fun W => W.cell? ⟨w.heap.size, 0, none⟩ = some (.slice Ac c.length cc) ∧ W.cell? ⟨w.heap.size, 1, none⟩ = some (.slice Al l.length cl) ∧ W.cell? ⟨w.heap.size, 2, none⟩ = some (.slice At t.length ct) ∧ Below w3.heap.size w3 W)
            ((refine HK.out _ ?_; with_reducible first | exact (Below.refl _ _).drew | exact HX0.out.drew | exact hbw5 | exact hbw6 | exact kk_call6 (And.right (And.right (And.right (by assumption)))) hbR))
            (first
              | (refine step_append_rows _ (by rfl) _ _ 23 (by rfl) w3.heap.size 28 i0 _ 4 32 Tryd.underlying23 hi0 hq0 hq1 hq2 rfl (by omega) _ 0 [] (by rfl) HOWN0.out _ (by rfl) l.length _ (l.flatMap itCells) (HIW.out _ HX0.out.drew) (mem_it l) (by simp only [maxLen]; omega) (by omega) HX0.out.size ?_; intro v5 w5 hown5 hg5; have hbw5 : Below w3.heap.size w3 w5 := HX0.out.drew.grown hg5 HX0.out.size (fun g hg => by have h9 : some w3.heap.size = some g := hg; injection h9 with h9; omega))
              | (refine step_append_rows _ (by rfl) _ _ 23 (by rfl) w3.heap.size 28 i0 _ 4 32 Tryd.underlying23 hi0 hq0 hq1 hq2 rfl (by omega) _ _ _ (by rfl) hown5 _ (by rfl) ot.length _ (ot.flatMap itCells) (HOW.out _ hbw5) (mem_it ot) (by simp only [maxLen]; omega) (by omega) hbw5.size ?_; intro v6 w6 hown6 hg6; have hbw6 : Below w3.heap.size w3 w6 := hbw5.grown hg6 hbw5.size (fun g hg => (hown5.lt g hg).1))
              | (go_simp; go_at_call 17; refine (total_any c (l ++ ot) [] _ _ _ _ (HCW.out _ hbw6) HNM.out (by have h9 := Rd.of_own hown6; unfold RdIt; rw [List.length_append, List.flatMap_append]; simpa using h9) (rdti_nil _ _)).mono ?_; rintro e w7 ⟨he, hbR⟩; rw [HCV.out] at he; subst he))
          all_goals
            refine forgetK6 (A := w3) (And.right (And.right (And.right (by assumption)))) ?_
            intro w4 hb4
            have HB4 := Lib.hid (HB3.out.trans (hb4.mono hsz3))
            have hsz4 := HB4.out.size
            have hs4 : w.heap.size + 1 ≤ w4.heap.size := Nat.le_trans hs3 hb4.size
            have HC4 := Lib.hid (HC3.out.next hb4)
            have HI4 := Lib.hid (show RdIt w4 w4.heap.size _ l from Rd.next HI3.out hb4)
            have HO4 := Lib.hid (show RdIt w4 w4.heap.size _ ot from Rd.next HO3.out hb4)
            have HT4 := Lib.hid (show RdTi w4 w4.heap.size _ t from Rd.next HT3.out hb4)
            have x0 : w4.cell? ⟨w.heap.size, 0, none⟩ = some (.slice Ac c.length cc) := (hb4.cell (p := ⟨w.heap.size, 0, none⟩) (by show w.heap.size < _; omega)).trans v0
            have x1 : w4.cell? ⟨w.heap.size, 1, none⟩ = some (.slice Al l.length cl) := (hb4.cell (p := ⟨w.heap.size, 1, none⟩) (by show w.heap.size < _; omega)).trans v1
            have x2 : w4.cell? ⟨w.heap.size, 2, none⟩ = some (.slice At t.length ct) := (hb4.cell (p := ⟨w.heap.size, 2, none⟩) (by show w.heap.size < _; omega)).trans v2
            clear hb4 v0 v1 v2
            have ab := total_bd c l []
            have bb := total_bd c ot []
            rw [HA.out] at ab
            rw [HBB.out] at bb
            obtain ⟨ab1, ab2⟩ := ab
            obtain ⟨bb1, bb2⟩ := bb
            simp only at ab1 ab2 bb1 bb2
            obtain ⟨d, h0, hd⟩ : ∃ d h0, totalP c l t = (d, h0) := ⟨_, _, rfl⟩
            have HDD := Lib.hid hd
            clear hd
            by_cases hle : l.length + ot.length ≤ 32
            case' pos =>
              obtain ⟨rfl, rfl⟩ := HAD.out hle
              have hne : ((a + b) != (a + b)) = false := by rw [bne_eq_false_iff_eq]
            all_goals
              go_wp2_with fail
              refine (total_any c l t _ _ _ _ HC4.out HNM.out HI4.out HT4.out).mono ?_
              rintro e w5 ⟨he, hb5⟩
              rw [HDD.out] at he
              subst he
              have HB5 := Lib.hid (HB4.out.trans (hb5.mono hsz4))
              have hsz5 := HB5.out.size
              clear hb5
              by_cases hh : h0 = 0
              · subst hh
                obtain ⟨d1, d2⟩ := total_tiers HA.out HDD.out
                go_wp2_with fail
                refine (awakeB_any _ (HV.out.below HB5.out)).mono ?_
                rintro e w9 ⟨rfl, hb9⟩
                have HB9 := Lib.hid (HB5.out.trans (hb9.mono hsz5))
                clear hb9
                go_wp2_with fail
                go_ret
                exact ⟨rfl, HB9.out⟩
              · have hhb : (h0 != 0) = true := by rw [bne_iff_ne]; exact hh
                clear hh
                go_wp2_with fail
                refine (awakeB_any _ (HV.out.below HB5.out)).mono ?_
                rintro e w9 ⟨rfl, hb9⟩
                have HB9 := Lib.hid (HB5.out.trans (hb9.mono hsz5))
                clear hb9
                go_wp2_with fail
                go_ret
                exact ⟨rfl, HB9.out⟩
        · have hyb : (f0 != 0) = true := by rw [bne_iff_ne]; exact hy
          clear hy
          go_wp2_with fail
          refine (awakeB_any _ (HV.out.below HB3.out)).mono ?_
          rintro e w9 ⟨rfl, hb9⟩
          have HB9 := Lib.hid (HB3.out.trans (hb9.mono hsz3))
          clear hb9
          go_wp2_with fail
          go_ret
          exact ⟨rfl, HB9.out⟩
      · have hzb : (e0 != 0) = true := by rw [bne_iff_ne]; exact hz
        clear hz
        go_wp2_with fail
        refine (awakeB_any _ (HV.out.below HB3.out)).mono ?_
        rintro e w9 ⟨rfl, hb9⟩
        have HB9 := Lib.hid (HB3.out.trans (hb9.mono hsz3))
        clear hb9
        go_wp2_with fail
        go_ret
        exact ⟨rfl, HB9.out⟩

end Go.Proofs.YtdbkdneolcgfjaaDoor
