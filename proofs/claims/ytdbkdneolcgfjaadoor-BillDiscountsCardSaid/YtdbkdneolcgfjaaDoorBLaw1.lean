/-
  BillAmounts and BillDiscounts walked.
-/
import Derived.Test.YtdbkdneolcgfjaaDoorBillOpen
namespace Go.Proofs.YtdbkdneolcgfjaaDoor
open Go.RowKit Saw Go.Sort

set_option maxRecDepth 100000 in
set_option maxHeartbeats 1000000 in
theorem billAmounts_walk (c : List Pr) (l : List It) (t : List Ti) (Ac Al At : Option Addr) (cc cl ct : Nat) (i : It) (w : World) (h : InvOk w c l t Ac Al At cc cl ct) (_hi : I64 i.product ∧ I64 i.length ∧ I64 i.count ∧ I64 i.price) (hv : VarsB w) :
    Calls Tryd.prog 3 #[.agg #[.slice Ac c.length cc, .slice Al l.length cl, .slice At t.length ct], .agg #[.int .i64 i.product, .int .i64 i.length, .int .i64 i.count, .int .i64 i.price]] w (LawB w) := by
  obtain ⟨hc, hl, ht, hn⟩ := h
  obtain ⟨W0, hW0⟩ : ∃ W0, (w.alloc (.cells #[.slice Ac c.length cc, .slice Al l.length cl, .slice At t.length ct] 26)).alloc (.cells #[.int .i64 i.product, .int .i64 i.length, .int .i64 i.count, .int .i64 i.price] 28) = W0 := ⟨_, rfl⟩
  have s0 : W0.heap.size = w.heap.size + 1 + 1 := by rw [← hW0, World.size_alloc, World.size_alloc]
  have b0 : Below w.heap.size w W0 := by rw [← hW0]; exact ((Below.refl _ _).alloc (Nat.le_refl _) _).alloc (by rw [World.size_alloc]; omega) _
  have g0 : W0.heap[w.heap.size]? = some (.cells #[.slice Ac c.length cc, .slice Al l.length cl, .slice At t.length ct] 26 (0, 0)) := by rw [← hW0]; exact (Below.heap_alloc _ _ _ (by rw [World.size_alloc]; omega)).trans (heap_alloc_last w _)
  have g1 : W0.heap[w.heap.size + 1]? = some (.cells #[.int .i64 i.product, .int .i64 i.length, .int .i64 i.count, .int .i64 i.price] 28 (0, 0)) := by rw [← hW0]; have := heap_alloc_last (w.alloc (.cells #[.slice Ac c.length cc, .slice Al l.length cl, .slice At t.length ct] 26)) (.cells #[.int .i64 i.product, .int .i64 i.length, .int .i64 i.count, .int .i64 i.price] 28); rw [World.size_alloc] at this; exact this
  have p0 : W0.cell? ⟨w.heap.size, 0, none⟩ = some (.slice Ac c.length cc) := cell_of_box g0 rfl
  have pt0 : W0.cell? ⟨w.heap.size + 1, 0, none⟩ = some (.int .i64 i.product) := cell_of_box g1 rfl
  have pt1 : W0.cell? ⟨w.heap.size + 1, 1, none⟩ = some (.int .i64 i.length) := cell_of_box g1 rfl
  have pt2 : W0.cell? ⟨w.heap.size + 1, 2, none⟩ = some (.int .i64 i.count) := cell_of_box g1 rfl
  have pt3 : W0.cell? ⟨w.heap.size + 1, 3, none⟩ = some (.int .i64 i.price) := cell_of_box g1 rfl
  have HL := Lib.hid (And.intro hl.form ht.form)
  obtain ⟨_, _, _, _, hl1⟩ := hl.form
  obtain ⟨_, _, _, _, ht1⟩ := ht.form
  have HC0 := Lib.hid (hc.next b0)
  have HB0 := Lib.hid b0
  have HV := Lib.hid hv
  have HN := Lib.hid (show ∀ x ∈ c, x.name.length ≤ 9223372036854775807 from fun x hx => by have := hn x hx; unfold maxLen at this; omega)
  have HW0 := Lib.hid hW0
  have HL1 := Lib.hid hl1
  have HT1 := Lib.hid ht1
  clear hc hl ht hn hv b0 g0 g1 hW0 hl1 ht1
  go_enter Tryd.func3, Tryd.ntmps3
  go_wp2_with fail
  rw [HW0.out]
  refine (smallB_any c l t Ac Al At cc cl ct _ HC0.out HL1.out HT1.out HN.out).mono ?_
  rintro e w1 ⟨he, hb⟩
  have HB := Lib.hid (HB0.out.trans (hb.mono HB0.out.size))
  have hsz1 := HB.out.size
  have hs1 : w.heap.size + 1 + 1 ≤ w1.heap.size := by have := hb.size; omega
  have r0 : w1.cell? ⟨w.heap.size, 0, none⟩ = some (.slice Ac c.length cc) := (hb.cell (p := ⟨w.heap.size, 0, none⟩) (by show w.heap.size < _; omega)).trans p0
  have rt0 : w1.cell? ⟨w.heap.size + 1, 0, none⟩ = some (.int .i64 i.product) := (hb.cell (p := ⟨w.heap.size + 1, 0, none⟩) (by show w.heap.size + 1 < _; omega)).trans pt0
  have rt1 : w1.cell? ⟨w.heap.size + 1, 1, none⟩ = some (.int .i64 i.length) := (hb.cell (p := ⟨w.heap.size + 1, 1, none⟩) (by show w.heap.size + 1 < _; omega)).trans pt1
  have rt2 : w1.cell? ⟨w.heap.size + 1, 2, none⟩ = some (.int .i64 i.count) := (hb.cell (p := ⟨w.heap.size + 1, 2, none⟩) (by show w.heap.size + 1 < _; omega)).trans pt2
  have rt3 : w1.cell? ⟨w.heap.size + 1, 3, none⟩ = some (.int .i64 i.price) := (hb.cell (p := ⟨w.heap.size + 1, 3, none⟩) (by show w.heap.size + 1 < _; omega)).trans pt3
  have HC1 := Lib.hid (HC0.out.next hb)
  clear hb p0 pt0 pt1 pt2 pt3 HC0 HB0 HW0
  cases hsm : smallB c l t with
  | false =>
    rw [hsm] at he
    subst he
    clear hsm
    go_wp2_with fail
    refine (awakeB_any _ (HV.out.below HB.out)).mono ?_
    rintro e w2 ⟨rfl, hb2⟩
    have HB2 := Lib.hid (HB.out.trans (hb2.mono hsz1))
    clear hb2
    go_wp2_with fail
    go_ret
    exact ⟨rfl, HB2.out⟩
  | true =>
    rw [hsm] at he
    subst he
    have HNM := Lib.hid (smallB_names hsm).2.2.2
    obtain ⟨a, f, ha⟩ : ∃ a f, amountP c i = (a, f) := ⟨_, _, rfl⟩
    have HA := Lib.hid ha
    have e1 : (a == a) = true := beq_self_eq_true _
    have e2 : (f == f) = true := beq_self_eq_true _
    clear hsm ha
    go_wp2_with fail
    refine (amount_any c _ i _ HC1.out HNM.out).mono ?_
    rintro e w2 ⟨he, hb2⟩
    rw [HA.out] at he
    subst he
    have HB2 := Lib.hid (HB.out.trans (hb2.mono hsz1))
    have hsz2 := HB2.out.size
    have HC2 := Lib.hid (HC1.out.next hb2)
    have t0 : w2.cell? ⟨w.heap.size, 0, none⟩ = some (.slice Ac c.length cc) := (hb2.cell (p := ⟨w.heap.size, 0, none⟩) (by show w.heap.size < _; omega)).trans r0
    have st0 : w2.cell? ⟨w.heap.size + 1, 0, none⟩ = some (.int .i64 i.product) := (hb2.cell (p := ⟨w.heap.size + 1, 0, none⟩) (by show w.heap.size + 1 < _; omega)).trans rt0
    have st1 : w2.cell? ⟨w.heap.size + 1, 1, none⟩ = some (.int .i64 i.length) := (hb2.cell (p := ⟨w.heap.size + 1, 1, none⟩) (by show w.heap.size + 1 < _; omega)).trans rt1
    have st2 : w2.cell? ⟨w.heap.size + 1, 2, none⟩ = some (.int .i64 i.count) := (hb2.cell (p := ⟨w.heap.size + 1, 2, none⟩) (by show w.heap.size + 1 < _; omega)).trans rt2
    have st3 : w2.cell? ⟨w.heap.size + 1, 3, none⟩ = some (.int .i64 i.price) := (hb2.cell (p := ⟨w.heap.size + 1, 3, none⟩) (by show w.heap.size + 1 < _; omega)).trans rt3
    clear hb2 r0 rt0 rt1 rt2 rt3
    go_wp2_with fail
    refine (refAmount_any c _ i _ HC2.out HNM.out).mono ?_
    rintro e w3 ⟨he, hb3⟩
    rw [HA.out] at he
    subst he
    have HB3 := Lib.hid (HB2.out.trans (hb3.mono hsz2))
    have hsz3 := HB3.out.size
    clear hb3 t0 st0 st1 st2 st3
    go_wp2_with fail
    refine (awakeB_any _ (HV.out.below HB3.out)).mono ?_
    rintro e w4 ⟨rfl, hb4⟩
    have HB4 := Lib.hid (HB3.out.trans (hb4.mono hsz3))
    clear hb4
    go_wp2_with fail
    go_ret
    exact ⟨rfl, HB4.out⟩

set_option maxRecDepth 100000 in
set_option maxHeartbeats 1000000 in
theorem billDiscounts_walk (l : List Ti) (A : Option Addr) (c : Nat) (total : Int) (w : World) (h : RdTi w w.heap.size (.slice A l.length c) l ∧ ∀ t ∈ l, I64 t.lo ∧ I64 t.off) (_ht : I64 total) (hv : VarsB w) :
    Calls Tryd.prog 4 #[.slice A l.length c, .int .i64 total] w (LawB w) := by
  obtain ⟨hrd, _⟩ := h
  obtain ⟨_, _, _, _, hml⟩ := hrd.form
  unfold maxLen at hml
  have HRD := Lib.hid hrd
  have HV := Lib.hid hv
  clear hrd hv
  by_cases h30 : 30 < l.length
  · go_enter Tryd.func4, Tryd.ntmps4
    go_wp2_with fail
    refine (awakeB_any _ HV.out).mono ?_
    rintro e w2 ⟨rfl, hb2⟩
    have HB2 := Lib.hid hb2
    clear hb2
    go_wp2_with fail
    go_ret
    exact ⟨rfl, HB2.out⟩
  · obtain ⟨a, f, ha⟩ : ∃ a f, discountP l total = (a, f) := ⟨_, _, rfl⟩
    have HA := Lib.hid ha
    have e1 : (a == a) = true := beq_self_eq_true _
    have e2 : (f == f) = true := beq_self_eq_true _
    clear ha
    go_enter Tryd.func4, Tryd.ntmps4
    go_wp2_with fail
    refine (discount_any l _ total _ HRD.out).mono ?_
    rintro e w1 ⟨he, hb1⟩
    rw [HA.out] at he
    subst he
    have HB1 := Lib.hid hb1
    have hsz1 := hb1.size
    have HRD1 := Lib.hid (show RdTi w1 w1.heap.size _ l from Rd.next HRD.out hb1)
    clear hb1
    go_wp2_with fail
    refine (tiers_any l _ _ HRD1.out (by omega)).mono ?_
    rintro e w2 ⟨v2, rfl, ho2, hb2⟩
    have HB2 := Lib.hid (HB1.out.trans (hb2.mono hsz1))
    have hsz2 := HB2.out.size
    have HRD2 := Lib.hid (show RdTi w2 w2.heap.size v2 l from Rd.of_own ho2)
    clear hb2 ho2
    go_wp2_with fail
    refine (refDiscount_any l _ total _ HRD2.out).mono ?_
    rintro e w3 ⟨he, hb3⟩
    rw [HA.out] at he
    subst he
    have HB3 := Lib.hid (HB2.out.trans (hb3.mono hsz2))
    have hsz3 := HB3.out.size
    clear hb3
    go_wp2_with fail
    refine (awakeB_any _ (HV.out.below HB3.out)).mono ?_
    rintro e w4 ⟨rfl, hb4⟩
    have HB4 := Lib.hid (HB3.out.trans (hb4.mono hsz3))
    clear hb4
    go_wp2_with fail
    go_ret
    exact ⟨rfl, HB4.out⟩

end Go.Proofs.YtdbkdneolcgfjaaDoor
