/-
  BillTotals walked.
-/
import Derived.Test.YtdbkdneolcgfjaaDoorBLaw2
import Derived.Deep.RegionHeld3
namespace Go.Proofs.YtdbkdneolcgfjaaDoor
open Go.RowKit Saw Go.Sort

theorem kk_call {A W W' : World} (h : Below A.heap.size A W) (h2 : Below W.heap.size W W') : Below A.heap.size A W' := h.trans (h2.mono h.size)
theorem forgetK {A W : World} {P : World → Prop} (hS : Below A.heap.size A W) (h : ∀ W, Below A.heap.size A W → P W) : P W := h W hS

set_option maxRecDepth 100000 in
set_option maxHeartbeats 1000000 in
theorem billTotals_walk (c : List Pr) (l : List It) (t : List Ti) (Ac Al At : Option Addr) (cc cl ct : Nat) (w : World) (h : InvOk w c l t Ac Al At cc cl ct) (hv : VarsB w) :
    Calls Tryd.prog 5 #[.agg #[.slice Ac c.length cc, .slice Al l.length cl, .slice At t.length ct]] w (LawB w) := by
  obtain ⟨hc, hl, ht, hn⟩ := h
  obtain ⟨W0, hW0⟩ : ∃ W0, w.alloc (.cells #[.slice Ac c.length cc, .slice Al l.length cl, .slice At t.length ct] 26) = W0 := ⟨_, rfl⟩
  have s0 : W0.heap.size = w.heap.size + 1 := by rw [← hW0, World.size_alloc]
  have b0 : Below w.heap.size w W0 := by rw [← hW0]; exact (Below.refl _ _).alloc (Nat.le_refl _) _
  have g0 : W0.heap[w.heap.size]? = some (.cells #[.slice Ac c.length cc, .slice Al l.length cl, .slice At t.length ct] 26 (0, 0)) := by rw [← hW0]; exact heap_alloc_last w _
  have p0 : W0.cell? ⟨w.heap.size, 0, none⟩ = some (.slice Ac c.length cc) := cell_of_box g0 rfl
  have p1 : W0.cell? ⟨w.heap.size, 1, none⟩ = some (.slice Al l.length cl) := cell_of_box g0 rfl
  have p2 : W0.cell? ⟨w.heap.size, 2, none⟩ = some (.slice At t.length ct) := cell_of_box g0 rfl
  obtain ⟨_, _, _, _, hl1⟩ := hl.form
  obtain ⟨_, _, _, _, ht1⟩ := ht.form
  have HC0 := Lib.hid (hc.next b0)
  have HI0 := Lib.hid (show RdIt W0 W0.heap.size _ l from Rd.next hl b0)
  have HT0 := Lib.hid (show RdTi W0 W0.heap.size _ t from Rd.next ht b0)
  have HB0 := Lib.hid b0
  have HV := Lib.hid hv
  have HN := Lib.hid (show ∀ x ∈ c, x.name.length ≤ 9223372036854775807 from fun x hx => by have := hn x hx; unfold maxLen at this; omega)
  have HW0 := Lib.hid hW0
  have HL1 := Lib.hid hl1
  have HT1 := Lib.hid ht1
  clear hc hl ht hn hv b0 g0 hW0 hl1 ht1
  go_enter Tryd.func5, Tryd.ntmps5
  go_wp2_with fail
  rw [HW0.out]
  refine (smallB_any c l t Ac Al At cc cl ct _ HC0.out HL1.out HT1.out HN.out).mono ?_
  rintro e w1 ⟨he, hb⟩
  have HB := Lib.hid (HB0.out.trans (hb.mono HB0.out.size))
  have hsz1 := HB.out.size
  have hs1 : w.heap.size + 1 ≤ w1.heap.size := by have := hb.size; omega
  have r0 : w1.cell? ⟨w.heap.size, 0, none⟩ = some (.slice Ac c.length cc) := (hb.cell (p := ⟨w.heap.size, 0, none⟩) (by show w.heap.size < _; omega)).trans p0
  have r1 : w1.cell? ⟨w.heap.size, 1, none⟩ = some (.slice Al l.length cl) := (hb.cell (p := ⟨w.heap.size, 1, none⟩) (by show w.heap.size < _; omega)).trans p1
  have r2 : w1.cell? ⟨w.heap.size, 2, none⟩ = some (.slice At t.length ct) := (hb.cell (p := ⟨w.heap.size, 2, none⟩) (by show w.heap.size < _; omega)).trans p2
  have HC1 := Lib.hid (HC0.out.next hb)
  have HI1 := Lib.hid (show RdIt w1 w1.heap.size _ l from Rd.next HI0.out hb)
  have HT1' := Lib.hid (show RdTi w1 w1.heap.size _ t from Rd.next HT0.out hb)
  clear hb p0 p1 p2 HC0 HI0 HT0 HB0 HW0
  cases hsm : smallB c l t with
  | false =>
    rw [hsm] at he
    subst he
    clear hsm
    go_wp2_with fail
    refine (awakeB_any _ (HV.out.below HB.out)).mono ?_
    rintro e w2 ⟨rfl, hb2⟩
    have HB2 := Lib.hid (HB.out.trans (hb2.mono hsz1))
    clear hb2
    go_wp2_with fail
    go_ret
    exact ⟨rfl, HB2.out⟩
  | true =>
    rw [hsm] at he
    subst he
    obtain ⟨_, hl100, ht30, hnm⟩ := smallB_names hsm
    have HNM := Lib.hid hnm
    clear hsm hnm
    obtain ⟨n, f, htot⟩ : ∃ n f, totalP c l t = (n, f) := ⟨_, _, rfl⟩
    have HTOT := Lib.hid htot
    obtain ⟨tx, htx⟩ : ∃ tx, textP c l t = (tx, f) := ⟨(textP c l t).1, Prod.ext rfl (by rw [text_err]; rw [htot])⟩
    have HTX := Lib.hid htx
    clear htot htx
    go_wp2_with fail
    refine (total_any c l t _ _ _ _ HC1.out HNM.out HI1.out HT1'.out).mono ?_
    rintro e w2 ⟨he, hb2⟩
    rw [HTOT.out] at he
    subst he
    have HB2 := Lib.hid (HB.out.trans (hb2.mono hsz1))
    have hsz2 := HB2.out.size
    have hs2 : w.heap.size + 1 ≤ w2.heap.size := Nat.le_trans hs1 hb2.size
    have HC2 := Lib.hid (HC1.out.next hb2)
    have HI2 := Lib.hid (show RdIt w2 w2.heap.size _ l from Rd.next HI1.out hb2)
    have HT2 := Lib.hid (show RdTi w2 w2.heap.size _ t from Rd.next HT1'.out hb2)
    have t0 : w2.cell? ⟨w.heap.size, 0, none⟩ = some (.slice Ac c.length cc) := (hb2.cell (p := ⟨w.heap.size, 0, none⟩) (by show w.heap.size < _; omega)).trans r0
    have t1 : w2.cell? ⟨w.heap.size, 1, none⟩ = some (.slice Al l.length cl) := (hb2.cell (p := ⟨w.heap.size, 1, none⟩) (by show w.heap.size < _; omega)).trans r1
    have t2 : w2.cell? ⟨w.heap.size, 2, none⟩ = some (.slice At t.length ct) := (hb2.cell (p := ⟨w.heap.size, 2, none⟩) (by show w.heap.size < _; omega)).trans r2
    clear hb2 r0 r1 r2 HC1 HI1 HT1'
    have HKa : Hid (∀ W, Below w2.heap.size w2 W → W.cell? ⟨w.heap.size, 0, none⟩ = some (.slice Ac c.length cc) ∧ W.cell? ⟨w.heap.size, 1, none⟩ = some (.slice Al l.length cl) ∧ W.cell? ⟨w.heap.size, 2, none⟩ = some (.slice At t.length ct) ∧ Below w2.heap.size w2 W) := fun W hW => ⟨(hW.cell (p := ⟨w.heap.size, 0, none⟩) (by show w.heap.size < _; omega)).trans t0, (hW.cell (p := ⟨w.heap.size, 1, none⟩) (by show w.heap.size < _; omega)).trans t1, (hW.cell (p := ⟨w.heap.size, 2, none⟩) (by show w.heap.size < _; omega)).trans t2, hW⟩
    have HIWa : Hid (∀ W, Below w2.heap.size w2 W → RdIt W W.heap.size (.slice Al l.length cl) l) := fun W hW => Rd.next HI2.out hW
    have HTWa : Hid (∀ W, Below w2.heap.size w2 W → RdTi W W.heap.size (.slice At t.length ct) t) := fun W hW => Rd.next HT2.out hW
    have HCWa : Hid (∀ W, Below w2.heap.size w2 W → RdPr W W.heap.size (.slice Ac c.length cc) c) := fun W hW => HC2.out.next hW
    go_wp2_with fail
    go_region_held3 (fun W => W.cell? ⟨w.heap.size, 0, none⟩ = some (.slice Ac c.length cc) ∧ W.cell? ⟨w.heap.size, 1, none⟩ = some (.slice Al l.length cl) ∧ W.cell? ⟨w.heap.size, 2, none⟩ = some (.slice At t.length ct) ∧ Below w2.heap.size w2 W)
      ((refine HKa.out _ ?_; with_reducible first | exact (Below.refl _ _).drew | exact kk_call (And.right (And.right (And.right (by assumption)))) hbR | exact kk_call (And.right (And.right (And.right (by assumption)))) hbI | exact kk_call (And.right (And.right (And.right (by assumption)))) hbT))
      (first
        | (go_at_call 19; refine (items_any l _ _ (HIWa.out _ (And.right (And.right (And.right (by assumption))))) (by omega)).mono ?_; rintro e wi ⟨vi, rfl, hoi, hbI⟩; (try have hot2 := owns_below hot hbI))
        | (go_at_call 16; refine (tiers_any t _ _ (HTWa.out _ (And.right (And.right (And.right (by assumption))))) (by omega)).mono ?_; rintro e wt ⟨vt, rfl, hot, hbT⟩; (try have hoi2 := owns_below hoi hbT))
        | (go_at_call 18; refine (refTotal_any c l t _ _ _ _ (HCWa.out _ (And.right (And.right (And.right (by assumption))))) HNM.out (by first | exact Rd.of_own hoi2 | exact Rd.of_own hoi) (by first | exact Rd.of_own hot2 | exact Rd.of_own hot)).mono ?_; rintro e wf ⟨he, hbR⟩; rw [HTOT.out] at he; subst he))
    all_goals
      refine forgetK (A := w2) (And.right (And.right (And.right (by assumption)))) ?_
      intro w3 hb3
      have HB3 := Lib.hid (HB2.out.trans (hb3.mono hsz2))
      have hsz3 := HB3.out.size
      have hs3 : w.heap.size + 1 ≤ w3.heap.size := Nat.le_trans hs2 hb3.size
      have HC3 := Lib.hid (HC2.out.next hb3)
      have HI3 := Lib.hid (show RdIt w3 w3.heap.size _ l from Rd.next HI2.out hb3)
      have HT3 := Lib.hid (show RdTi w3 w3.heap.size _ t from Rd.next HT2.out hb3)
      have u0 : w3.cell? ⟨w.heap.size, 0, none⟩ = some (.slice Ac c.length cc) := (hb3.cell (p := ⟨w.heap.size, 0, none⟩) (by show w.heap.size < _; omega)).trans t0
      have u1 : w3.cell? ⟨w.heap.size, 1, none⟩ = some (.slice Al l.length cl) := (hb3.cell (p := ⟨w.heap.size, 1, none⟩) (by show w.heap.size < _; omega)).trans t1
      have u2 : w3.cell? ⟨w.heap.size, 2, none⟩ = some (.slice At t.length ct) := (hb3.cell (p := ⟨w.heap.size, 2, none⟩) (by show w.heap.size < _; omega)).trans t2
      clear hb3 t0 t1 t2
      go_wp2_with fail
      refine (text_any c l t _ _ _ _ HC3.out HNM.out HI3.out HT3.out (HV.out.below HB3.out).1 (HV.out.below HB3.out).2).mono ?_
      rintro e w4 ⟨he, hb4⟩
      rw [HTX.out] at he
      subst he
      have HB4 := Lib.hid (HB3.out.trans (hb4.mono hsz3))
      have hsz4 := HB4.out.size
      have hs4 : w.heap.size + 1 ≤ w4.heap.size := Nat.le_trans hs3 hb4.size
      have HC4 := Lib.hid (HC3.out.next hb4)
      have HI4 := Lib.hid (show RdIt w4 w4.heap.size _ l from Rd.next HI3.out hb4)
      have HT4 := Lib.hid (show RdTi w4 w4.heap.size _ t from Rd.next HT3.out hb4)
      have x0 : w4.cell? ⟨w.heap.size, 0, none⟩ = some (.slice Ac c.length cc) := (hb4.cell (p := ⟨w.heap.size, 0, none⟩) (by show w.heap.size < _; omega)).trans u0
      have x1 : w4.cell? ⟨w.heap.size, 1, none⟩ = some (.slice Al l.length cl) := (hb4.cell (p := ⟨w.heap.size, 1, none⟩) (by show w.heap.size < _; omega)).trans u1
      have x2 : w4.cell? ⟨w.heap.size, 2, none⟩ = some (.slice At t.length ct) := (hb4.cell (p := ⟨w.heap.size, 2, none⟩) (by show w.heap.size < _; omega)).trans u2
      clear hb4 u0 u1 u2
      have HKb : Hid (∀ W, Below w4.heap.size w4 W → W.cell? ⟨w.heap.size, 0, none⟩ = some (.slice Ac c.length cc) ∧ W.cell? ⟨w.heap.size, 1, none⟩ = some (.slice Al l.length cl) ∧ W.cell? ⟨w.heap.size, 2, none⟩ = some (.slice At t.length ct) ∧ Below w4.heap.size w4 W) := fun W hW => ⟨(hW.cell (p := ⟨w.heap.size, 0, none⟩) (by show w.heap.size < _; omega)).trans x0, (hW.cell (p := ⟨w.heap.size, 1, none⟩) (by show w.heap.size < _; omega)).trans x1, (hW.cell (p := ⟨w.heap.size, 2, none⟩) (by show w.heap.size < _; omega)).trans x2, hW⟩
      have HIWb : Hid (∀ W, Below w4.heap.size w4 W → RdIt W W.heap.size (.slice Al l.length cl) l) := fun W hW => Rd.next HI4.out hW
      have HTWb : Hid (∀ W, Below w4.heap.size w4 W → RdTi W W.heap.size (.slice At t.length ct) t) := fun W hW => Rd.next HT4.out hW
      have HCWb : Hid (∀ W, Below w4.heap.size w4 W → RdPr W W.heap.size (.slice Ac c.length cc) c) := fun W hW => HC4.out.next hW
      go_wp2_with fail
      go_region_held3 (fun W => W.cell? ⟨w.heap.size, 0, none⟩ = some (.slice Ac c.length cc) ∧ W.cell? ⟨w.heap.size, 1, none⟩ = some (.slice Al l.length cl) ∧ W.cell? ⟨w.heap.size, 2, none⟩ = some (.slice At t.length ct) ∧ Below w4.heap.size w4 W)
        ((refine HKb.out _ ?_; with_reducible first | exact (Below.refl _ _).drew | exact kk_call (And.right (And.right (And.right (by assumption)))) hbR | exact kk_call (And.right (And.right (And.right (by assumption)))) hbI | exact kk_call (And.right (And.right (And.right (by assumption)))) hbT))
        (first
          | (go_at_call 19; refine (items_any l _ _ (HIWb.out _ (And.right (And.right (And.right (by assumption))))) (by omega)).mono ?_; rintro e wi ⟨vi, rfl, hoi, hbI⟩; (try have hot2 := owns_below hot hbI))
          | (go_at_call 16; refine (tiers_any t _ _ (HTWb.out _ (And.right (And.right (And.right (by assumption))))) (by omega)).mono ?_; rintro e wt ⟨vt, rfl, hot, hbT⟩; (try have hoi2 := owns_below hoi hbT))
          | (go_at_call 21; refine (refText_any c l t _ _ _ _ (HCWb.out _ (And.right (And.right (And.right (by assumption))))) HNM.out (by first | exact Rd.of_own hoi2 | exact Rd.of_own hoi) (by first | exact Rd.of_own hot2 | exact Rd.of_own hot)).mono ?_; rintro e wf ⟨he, hbR⟩; rw [HTX.out] at he; subst he))
      all_goals
        refine forgetK (A := w4) (And.right (And.right (And.right (by assumption)))) ?_
        intro w5 hb5
        have HB5 := Lib.hid (HB4.out.trans (hb5.mono hsz4))
        have hsz5 := HB5.out.size
        have e1 : (n == n) = true := beq_self_eq_true _
        have e2 : (f == f) = true := beq_self_eq_true _
        have e3 : ((str tx).toList == (str tx).toList) = true := beq_self_eq_true _
        clear hb5 x0 x1 x2
        go_wp2_with fail
        refine (awakeB_any _ (HV.out.below HB5.out)).mono ?_
        rintro e w6 ⟨rfl, hb6⟩
        have HB6 := Lib.hid (HB5.out.trans (hb6.mono hsz5))
        clear hb6
        go_wp2_with fail
        go_ret
        exact ⟨rfl, HB6.out⟩

end Go.Proofs.YtdbkdneolcgfjaaDoor
