/-
  ScheduleSteps walked.
-/
import Derived.Test.YtabdlldkkcjppaaDoorSLaw4
namespace Saw
/-- Whether a stage ends. -/
def doneP (x : Stg) (t m : Int) : Prop := (0 < x.below ∧ m ≤ x.below) ∨ (0 < x.ticks ∧ x.ticks ≤ t)
theorem doneP_more {x : Stg} {t m p q : Int} (h : doneP x t m) (hp : 0 ≤ p) (hq : 0 ≤ q) : doneP x (t + p) (m - q) := by
  rcases h with h | h
  · exact .inl ⟨h.1, by omega⟩
  · exact .inr ⟨h.1, by omega⟩
theorem doneP_last {x : Stg} (h : soundP x = true) : doneP x 10000 0 := by
  obtain ⟨a1, _, b1, b2, h0, _⟩ := soundP_iff.1 h
  by_cases hb : x.below = 0
  · exact .inr ⟨by omega, b2⟩
  · exact .inl ⟨by omega, a1⟩
end Saw
namespace Go.Proofs.YtabdlldkkcjppaaDoor
open Go.RowKit Saw Go.Sort

theorem ends_done {s : Sc} {k : Nat} {x : Stg} {t m : Int} (h : s.stages[k]? = some x) (hd : doneP x t m) : endsSc s k t m = ((k : Int) + 1, true) := by rw [endsSc_in h]; exact if_pos hd
theorem ends_not {s : Sc} {k : Nat} {x : Stg} {t m : Int} (h : s.stages[k]? = some x) (hd : ¬ doneP x t m) : endsSc s k t m = ((k : Int), false) := by rw [endsSc_in h]; exact if_neg hd
/-- The boxes of the arguments. -/
def StBox (w W : World) (s : Sc) (As : Option Addr) (cs : Nat) (a b c m0 m1 : Int) : Prop :=
  IsSc W w.heap.size s (.slice As s.stages.length cs) ∧ W.heap[w.heap.size + 1]? = some (.cells #[.int .i64 a, .int .i64 b, .int .i64 c] 35 (0, 0)) ∧ W.heap[w.heap.size + 1 + 1]? = some (.cells #[.int .i64 m0, .int .i64 m1] 49 (0, 0)) ∧ w.heap.size + 1 + 1 + 1 ≤ W.heap.size ∧ Below w.heap.size w W
theorem StBox.next {w W W' : World} {s : Sc} {As : Option Addr} {cs : Nat} {a b c m0 m1 : Int} (h : StBox w W s As cs a b c m0 m1) (hb : Below W.heap.size W W') : StBox w W' s As cs a b c m0 m1 := by
  obtain ⟨h1, h2, h3, h4, h5⟩ := h
  exact ⟨h1.below hb (by omega), (hb.block _ (by omega)).trans h2, (hb.block _ (by omega)).trans h3, Nat.le_trans h4 hb.size, bel_call h5 hb⟩

set_option maxRecDepth 100000 in
set_option maxHeartbeats 4000000 in
theorem scheduleSteps_walk (s : Sc) (As : Option Addr) (cs : Nat) (a b c m0 m1 : Int) (w : World) (hsc : ScArg w s As cs) (_hi : I64 a ∧ I64 b ∧ I64 c) (_hm : I64 m0 ∧ I64 m1) (hv : VarsS w) :
    Calls Tryd.prog 8 #[.agg #[.string (str s.name), .int .i64 s.ramp, .slice As s.stages.length cs], .agg #[.int .i64 a, .int .i64 b, .int .i64 c], .agg #[.int .i64 m0, .int .i64 m1]] w (LawS w) := by
  have HSC := Lib.hid hsc
  have HV := Lib.hid hv
  have hsn : s.name.length ≤ 9223372036854775807 := by have h9 := hsc.2.1; unfold maxLen at h9; omega
  have hss : s.stages.length ≤ 9223372036854775807 := by obtain ⟨_, _, _, _, h9⟩ := hsc.1.form; unfold maxLen at h9; omega
  obtain ⟨W0, hW0⟩ : ∃ W0, ((w.alloc (.cells #[.string (str s.name), .int .i64 s.ramp, .slice As s.stages.length cs] 24)).alloc (.cells #[.int .i64 a, .int .i64 b, .int .i64 c] 35)).alloc (.cells #[.int .i64 m0, .int .i64 m1] 49) = W0 := ⟨_, rfl⟩
  obtain ⟨b1, b2, b3, b4⟩ := three_new w (.cells #[.string (str s.name), .int .i64 s.ramp, .slice As s.stages.length cs] 24) (.cells #[.int .i64 a, .int .i64 b, .int .i64 c] 35) (.cells #[.int .i64 m0, .int .i64 m1] 49)
  rw [hW0] at b1 b2 b3 b4
  have HE0 := Lib.hid (show StBox w W0 s As cs a b c m0 m1 from ⟨b1, b2, b3, by omega, by rw [← hW0]; exact below3⟩)
  have HW0 := Lib.hid hW0
  have hsz0 := b4
  clear hv hsc hW0 b1 b2 b3 b4
  go_enter Tryd.func8, Tryd.ntmps8
  go_wp2_with fail
  rw [HW0.out]
  refine (small_any s As cs _ hsn hss).mono ?_
  rintro e w1 ⟨he, hb1⟩
  have HE1 := Lib.hid (HE0.out.next hb1)
  clear hb1
  obtain ⟨c0, c1, c2, _, _, _, _⟩ := HE1.out.1.cells
  have i0 : w1.cell? ⟨w.heap.size + 1, 0, none⟩ = some (.int .i64 a) := cell_of_box HE1.out.2.1 rfl
  have i1 : w1.cell? ⟨w.heap.size + 1, 1, none⟩ = some (.int .i64 b) := cell_of_box HE1.out.2.1 rfl
  have i2 : w1.cell? ⟨w.heap.size + 1, 2, none⟩ = some (.int .i64 c) := cell_of_box HE1.out.2.1 rfl
  have j0 : w1.cell? ⟨w.heap.size + 1 + 1, 0, none⟩ = some (.int .i64 m0) := cell_of_box HE1.out.2.2.1 rfl
  have j1 : w1.cell? ⟨w.heap.size + 1 + 1, 1, none⟩ = some (.int .i64 m1) := cell_of_box HE1.out.2.2.1 rfl
  obtain ⟨q, hq⟩ : ∃ q, smallOne s = q := ⟨_, rfl⟩
  rw [hq] at he
  subst he
  cases q with
  | false =>
    clear hq
    go_wp2_with fail
    refine (awakeS_any _ (HV.out.to2 (HE1.out.2.2.2.2))).mono ?_
    rintro e w2 ⟨rfl, hbz⟩
    have HBZ := Lib.hid (bel_call (HE1.out.2.2.2.2) hbz)
    clear hbz
    go_wp2_with fail
    go_ret
    exact ⟨rfl, HBZ.out⟩
  | true =>
    have HSM := Lib.hid (smallOne_ok hq)
    clear hq
    by_cases g0 : m0 < 0
    · skip
      go_wp2_with fail
      refine (awakeS_any _ (HV.out.to2 (HE1.out.2.2.2.2))).mono ?_
      rintro e w2 ⟨rfl, hbz⟩
      have HBZ := Lib.hid (bel_call (HE1.out.2.2.2.2) hbz)
      clear hbz
      go_wp2_with fail
      go_ret
      exact ⟨rfl, HBZ.out⟩
    · skip
      by_cases g1 : m1 < 0
      · skip
        go_wp2_with fail
        refine (awakeS_any _ (HV.out.to2 (HE1.out.2.2.2.2))).mono ?_
        rintro e w2 ⟨rfl, hbz⟩
        have HBZ := Lib.hid (bel_call (HE1.out.2.2.2.2) hbz)
        clear hbz
        go_wp2_with fail
        go_ret
        exact ⟨rfl, HBZ.out⟩
      · skip
        by_cases g2 : b < 0
        · skip
          go_wp2_with fail
          refine (awakeS_any _ (HV.out.to2 (HE1.out.2.2.2.2))).mono ?_
          rintro e w2 ⟨rfl, hbz⟩
          have HBZ := Lib.hid (bel_call (HE1.out.2.2.2.2) hbz)
          clear hbz
          go_wp2_with fail
          go_ret
          exact ⟨rfl, HBZ.out⟩
        · skip
          by_cases g3 : 1099511627776 < b
          · skip
            go_wp2_with fail
            refine (awakeS_any _ (HV.out.to2 (HE1.out.2.2.2.2))).mono ?_
            rintro e w2 ⟨rfl, hbz⟩
            have HBZ := Lib.hid (bel_call (HE1.out.2.2.2.2) hbz)
            clear hbz
            go_wp2_with fail
            go_ret
            exact ⟨rfl, HBZ.out⟩
          · skip
            by_cases g4 : c < -1099511627776
            · skip
              go_wp2_with fail
              refine (awakeS_any _ (HV.out.to2 (HE1.out.2.2.2.2))).mono ?_
              rintro e w2 ⟨rfl, hbz⟩
              have HBZ := Lib.hid (bel_call (HE1.out.2.2.2.2) hbz)
              clear hbz
              go_wp2_with fail
              go_ret
              exact ⟨rfl, HBZ.out⟩
            · skip
              by_cases g5 : 1099511627776 < c
              · skip
                go_wp2_with fail
                refine (awakeS_any _ (HV.out.to2 (HE1.out.2.2.2.2))).mono ?_
                rintro e w2 ⟨rfl, hbz⟩
                have HBZ := Lib.hid (bel_call (HE1.out.2.2.2.2) hbz)
                clear hbz
                go_wp2_with fail
                go_ret
                exact ⟨rfl, HBZ.out⟩
              · skip
                by_cases g6 : 1099511627776 < m0
                · skip
                  go_wp2_with fail
                  refine (awakeS_any _ (HV.out.to2 (HE1.out.2.2.2.2))).mono ?_
                  rintro e w2 ⟨rfl, hbz⟩
                  have HBZ := Lib.hid (bel_call (HE1.out.2.2.2.2) hbz)
                  clear hbz
                  go_wp2_with fail
                  go_ret
                  exact ⟨rfl, HBZ.out⟩
                · skip
                  by_cases g7 : 1099511627776 < m1
                  · skip
                    go_wp2_with fail
                    refine (awakeS_any _ (HV.out.to2 (HE1.out.2.2.2.2))).mono ?_
                    rintro e w2 ⟨rfl, hbz⟩
                    have HBZ := Lib.hid (bel_call (HE1.out.2.2.2.2) hbz)
                    clear hbz
                    go_wp2_with fail
                    go_ret
                    exact ⟨rfl, HBZ.out⟩
                  · skip
                    go_wp2_with fail
                    refine (ends_any s As cs a b c _ (HSC.out.1.next HE1.out.2.2.2.2)).mono ?_
                    rintro e w2 ⟨he, hb2⟩
                    have HE2 := Lib.hid (HE1.out.next hb2)
                    clear hb2
                    clear c0 c1 c2 i0 i1 i2 j0 j1
                    obtain ⟨c0, c1, c2, _, _, _, _⟩ := HE2.out.1.cells
                    have i0 : w2.cell? ⟨w.heap.size + 1, 0, none⟩ = some (.int .i64 a) := cell_of_box HE2.out.2.1 rfl
                    have i1 : w2.cell? ⟨w.heap.size + 1, 1, none⟩ = some (.int .i64 b) := cell_of_box HE2.out.2.1 rfl
                    have i2 : w2.cell? ⟨w.heap.size + 1, 2, none⟩ = some (.int .i64 c) := cell_of_box HE2.out.2.1 rfl
                    have j0 : w2.cell? ⟨w.heap.size + 1 + 1, 0, none⟩ = some (.int .i64 m0) := cell_of_box HE2.out.2.2.1 rfl
                    have j1 : w2.cell? ⟨w.heap.size + 1 + 1, 1, none⟩ = some (.int .i64 m1) := cell_of_box HE2.out.2.2.1 rfl
                    by_cases hout : a < 0 ∨ (s.stages.length : Int) ≤ a
                    · rw [endsSc_out hout] at he
                      subst he
                      by_cases ha0 : a < 0
                      · skip
                        go_wp2_with fail
                        refine (awakeS_any _ (HV.out.to2 (HE2.out.2.2.2.2))).mono ?_
                        rintro e w3 ⟨rfl, hbz⟩
                        have HBZ := Lib.hid (bel_call (HE2.out.2.2.2.2) hbz)
                        clear hbz
                        go_wp2_with fail
                        go_ret
                        exact ⟨rfl, HBZ.out⟩
                      · have ha1 : (s.stages.length : Int) ≤ a := by omega
                        go_wp2_with fail
                        refine (awakeS_any _ (HV.out.to2 (HE2.out.2.2.2.2))).mono ?_
                        rintro e w3 ⟨rfl, hbz⟩
                        have HBZ := Lib.hid (bel_call (HE2.out.2.2.2.2) hbz)
                        clear hbz
                        go_wp2_with fail
                        go_ret
                        exact ⟨rfl, HBZ.out⟩
                    · obtain ⟨k, rfl⟩ : ∃ k : Nat, a = k := ⟨a.toNat, by omega⟩
                      have hk : k < s.stages.length := by omega
                      have hx : s.stages[k]? = some s.stages[k] := List.getElem?_eq_getElem hk
                      obtain ⟨x, hxe⟩ : ∃ x, s.stages[k] = x := ⟨_, rfl⟩
                      rw [hxe] at hx
                      have hxm : x ∈ s.stages := List.mem_of_getElem? hx
                      have HX := Lib.hid hx
                      have HXM := Lib.hid hxm
                      have hk1 : ¬ (k : Int) < 0 := by omega
                      have hk2 : ¬ (s.stages.length : Int) ≤ (k : Int) := by omega
                      have hadd : ((k : Int) != (k : Int)) = false := by simp
                      have hadd1 : ((k : Int) + 1 != (k : Int) + 1) = false := by simp
                      clear hxe hx hxm hout
                      by_cases hd : doneP x b c
                      · rw [ends_done HX.out hd] at he
                        subst he
                        go_wp2_with fail
                        refine (ends_any s As cs k (b + m0) (c - m1) _ (HSC.out.1.next HE2.out.2.2.2.2)).mono ?_
                        rintro e w3 ⟨he, hb3⟩
                        have HE3 := Lib.hid (HE2.out.next hb3)
                        clear hb3
                        clear c0 c1 c2 i0 i1 i2 j0 j1
                        obtain ⟨c0, c1, c2, _, _, _, _⟩ := HE3.out.1.cells
                        have i0 : w3.cell? ⟨w.heap.size + 1, 0, none⟩ = some (.int .i64 (k : Int)) := cell_of_box HE3.out.2.1 rfl
                        have i1 : w3.cell? ⟨w.heap.size + 1, 1, none⟩ = some (.int .i64 b) := cell_of_box HE3.out.2.1 rfl
                        have i2 : w3.cell? ⟨w.heap.size + 1, 2, none⟩ = some (.int .i64 c) := cell_of_box HE3.out.2.1 rfl
                        have j0 : w3.cell? ⟨w.heap.size + 1 + 1, 0, none⟩ = some (.int .i64 m0) := cell_of_box HE3.out.2.2.1 rfl
                        have j1 : w3.cell? ⟨w.heap.size + 1 + 1, 1, none⟩ = some (.int .i64 m1) := cell_of_box HE3.out.2.2.1 rfl
                        rw [ends_done HX.out (doneP_more hd (by omega) (by omega))] at he
                        subst he
                        clear hd
                        go_wp2_with fail
                        refine (scCheck_any s As cs _ (HSC.out.1.next HE3.out.2.2.2.2) (by have := HSM.out.1; omega)).mono ?_
                        rintro e w4 ⟨he, hb4⟩
                        have HE4 := Lib.hid (HE3.out.next hb4)
                        clear hb4
                        clear c0 c1 c2 i0 i1 i2 j0 j1
                        obtain ⟨c0, c1, c2, _, _, _, _⟩ := HE4.out.1.cells
                        have i0 : w4.cell? ⟨w.heap.size + 1, 0, none⟩ = some (.int .i64 (k : Int)) := cell_of_box HE4.out.2.1 rfl
                        have i1 : w4.cell? ⟨w.heap.size + 1, 1, none⟩ = some (.int .i64 b) := cell_of_box HE4.out.2.1 rfl
                        have i2 : w4.cell? ⟨w.heap.size + 1, 2, none⟩ = some (.int .i64 c) := cell_of_box HE4.out.2.1 rfl
                        have j0 : w4.cell? ⟨w.heap.size + 1 + 1, 0, none⟩ = some (.int .i64 m0) := cell_of_box HE4.out.2.2.1 rfl
                        have j1 : w4.cell? ⟨w.heap.size + 1 + 1, 1, none⟩ = some (.int .i64 m1) := cell_of_box HE4.out.2.2.1 rfl
                        obtain ⟨q, hq⟩ : ∃ q, checkSc s = q := ⟨_, rfl⟩
                        rw [hq] at he
                        subst he
                        by_cases hq0 : q = 0
                        · subst hq0
                          have HD := Lib.hid (ends_done HX.out (doneP_last ((checkSc_ok hq).2.2.2.2.2 x HXM.out)))
                          clear hq
                          go_wp2_with fail
                          refine (ends_any s As cs k 10000 0 _ (HSC.out.1.next HE4.out.2.2.2.2)).mono ?_
                          rintro e w5 ⟨he, hb5⟩
                          rw [HD.out] at he
                          subst he
                          have HE5 := Lib.hid (HE4.out.next hb5)
                          clear hb5
                          clear c0 c1 c2 i0 i1 i2 j0 j1
                          go_wp2_with fail
                          refine (awakeS_any _ (HV.out.to2 (HE5.out.2.2.2.2))).mono ?_
                          rintro e w6 ⟨rfl, hbz⟩
                          have HBZ := Lib.hid (bel_call (HE5.out.2.2.2.2) hbz)
                          clear hbz
                          go_wp2_with fail
                          go_ret
                          exact ⟨rfl, HBZ.out⟩
                        · have hqb : (q != 0) = true := by rw [bne_iff_ne]; exact hq0
                          clear hq hq0
                          go_wp2_with fail
                          refine (awakeS_any _ (HV.out.to2 (HE4.out.2.2.2.2))).mono ?_
                          rintro e w6 ⟨rfl, hbz⟩
                          have HBZ := Lib.hid (bel_call (HE4.out.2.2.2.2) hbz)
                          clear hbz
                          go_wp2_with fail
                          go_ret
                          exact ⟨rfl, HBZ.out⟩
                      · rw [ends_not HX.out hd] at he
                        subst he
                        go_wp2_with fail
                        refine (ends_any s As cs k (b + m0) (c - m1) _ (HSC.out.1.next HE2.out.2.2.2.2)).mono ?_
                        rintro e w3 ⟨he, hb3⟩
                        have HE3 := Lib.hid (HE2.out.next hb3)
                        clear hb3
                        clear c0 c1 c2 i0 i1 i2 j0 j1
                        obtain ⟨c0, c1, c2, _, _, _, _⟩ := HE3.out.1.cells
                        have i0 : w3.cell? ⟨w.heap.size + 1, 0, none⟩ = some (.int .i64 (k : Int)) := cell_of_box HE3.out.2.1 rfl
                        have i1 : w3.cell? ⟨w.heap.size + 1, 1, none⟩ = some (.int .i64 b) := cell_of_box HE3.out.2.1 rfl
                        have i2 : w3.cell? ⟨w.heap.size + 1, 2, none⟩ = some (.int .i64 c) := cell_of_box HE3.out.2.1 rfl
                        have j0 : w3.cell? ⟨w.heap.size + 1 + 1, 0, none⟩ = some (.int .i64 m0) := cell_of_box HE3.out.2.2.1 rfl
                        have j1 : w3.cell? ⟨w.heap.size + 1 + 1, 1, none⟩ = some (.int .i64 m1) := cell_of_box HE3.out.2.2.1 rfl
                        clear hd
                        by_cases hd2 : doneP x (b + m0) (c - m1)
                        · rw [ends_done HX.out hd2] at he
                          subst he
                          clear hd2
                          go_wp2_with fail
                          refine (scCheck_any s As cs _ (HSC.out.1.next HE3.out.2.2.2.2) (by have := HSM.out.1; omega)).mono ?_
                          rintro e w4 ⟨he, hb4⟩
                          have HE4 := Lib.hid (HE3.out.next hb4)
                          clear hb4
                          clear c0 c1 c2 i0 i1 i2 j0 j1
                          obtain ⟨c0, c1, c2, _, _, _, _⟩ := HE4.out.1.cells
                          have i0 : w4.cell? ⟨w.heap.size + 1, 0, none⟩ = some (.int .i64 (k : Int)) := cell_of_box HE4.out.2.1 rfl
                          have i1 : w4.cell? ⟨w.heap.size + 1, 1, none⟩ = some (.int .i64 b) := cell_of_box HE4.out.2.1 rfl
                          have i2 : w4.cell? ⟨w.heap.size + 1, 2, none⟩ = some (.int .i64 c) := cell_of_box HE4.out.2.1 rfl
                          have j0 : w4.cell? ⟨w.heap.size + 1 + 1, 0, none⟩ = some (.int .i64 m0) := cell_of_box HE4.out.2.2.1 rfl
                          have j1 : w4.cell? ⟨w.heap.size + 1 + 1, 1, none⟩ = some (.int .i64 m1) := cell_of_box HE4.out.2.2.1 rfl
                          obtain ⟨q, hq⟩ : ∃ q, checkSc s = q := ⟨_, rfl⟩
                          rw [hq] at he
                          subst he
                          by_cases hq0 : q = 0
                          · subst hq0
                            have HD := Lib.hid (ends_done HX.out (doneP_last ((checkSc_ok hq).2.2.2.2.2 x HXM.out)))
                            clear hq
                            go_wp2_with fail
                            refine (ends_any s As cs k 10000 0 _ (HSC.out.1.next HE4.out.2.2.2.2)).mono ?_
                            rintro e w5 ⟨he, hb5⟩
                            rw [HD.out] at he
                            subst he
                            have HE5 := Lib.hid (HE4.out.next hb5)
                            clear hb5
                            clear c0 c1 c2 i0 i1 i2 j0 j1
                            go_wp2_with fail
                            refine (awakeS_any _ (HV.out.to2 (HE5.out.2.2.2.2))).mono ?_
                            rintro e w6 ⟨rfl, hbz⟩
                            have HBZ := Lib.hid (bel_call (HE5.out.2.2.2.2) hbz)
                            clear hbz
                            go_wp2_with fail
                            go_ret
                            exact ⟨rfl, HBZ.out⟩
                          · have hqb : (q != 0) = true := by rw [bne_iff_ne]; exact hq0
                            clear hq hq0
                            go_wp2_with fail
                            refine (awakeS_any _ (HV.out.to2 (HE4.out.2.2.2.2))).mono ?_
                            rintro e w6 ⟨rfl, hbz⟩
                            have HBZ := Lib.hid (bel_call (HE4.out.2.2.2.2) hbz)
                            clear hbz
                            go_wp2_with fail
                            go_ret
                            exact ⟨rfl, HBZ.out⟩
                        · rw [ends_not HX.out hd2] at he
                          subst he
                          clear hd2
                          go_wp2_with fail
                          refine (scCheck_any s As cs _ (HSC.out.1.next HE3.out.2.2.2.2) (by have := HSM.out.1; omega)).mono ?_
                          rintro e w4 ⟨he, hb4⟩
                          have HE4 := Lib.hid (HE3.out.next hb4)
                          clear hb4
                          clear c0 c1 c2 i0 i1 i2 j0 j1
                          obtain ⟨c0, c1, c2, _, _, _, _⟩ := HE4.out.1.cells
                          have i0 : w4.cell? ⟨w.heap.size + 1, 0, none⟩ = some (.int .i64 (k : Int)) := cell_of_box HE4.out.2.1 rfl
                          have i1 : w4.cell? ⟨w.heap.size + 1, 1, none⟩ = some (.int .i64 b) := cell_of_box HE4.out.2.1 rfl
                          have i2 : w4.cell? ⟨w.heap.size + 1, 2, none⟩ = some (.int .i64 c) := cell_of_box HE4.out.2.1 rfl
                          have j0 : w4.cell? ⟨w.heap.size + 1 + 1, 0, none⟩ = some (.int .i64 m0) := cell_of_box HE4.out.2.2.1 rfl
                          have j1 : w4.cell? ⟨w.heap.size + 1 + 1, 1, none⟩ = some (.int .i64 m1) := cell_of_box HE4.out.2.2.1 rfl
                          obtain ⟨q, hq⟩ : ∃ q, checkSc s = q := ⟨_, rfl⟩
                          rw [hq] at he
                          subst he
                          by_cases hq0 : q = 0
                          · subst hq0
                            have HD := Lib.hid (ends_done HX.out (doneP_last ((checkSc_ok hq).2.2.2.2.2 x HXM.out)))
                            clear hq
                            go_wp2_with fail
                            refine (ends_any s As cs k 10000 0 _ (HSC.out.1.next HE4.out.2.2.2.2)).mono ?_
                            rintro e w5 ⟨he, hb5⟩
                            rw [HD.out] at he
                            subst he
                            have HE5 := Lib.hid (HE4.out.next hb5)
                            clear hb5
                            clear c0 c1 c2 i0 i1 i2 j0 j1
                            go_wp2_with fail
                            refine (awakeS_any _ (HV.out.to2 (HE5.out.2.2.2.2))).mono ?_
                            rintro e w6 ⟨rfl, hbz⟩
                            have HBZ := Lib.hid (bel_call (HE5.out.2.2.2.2) hbz)
                            clear hbz
                            go_wp2_with fail
                            go_ret
                            exact ⟨rfl, HBZ.out⟩
                          · have hqb : (q != 0) = true := by rw [bne_iff_ne]; exact hq0
                            clear hq hq0
                            go_wp2_with fail
                            refine (awakeS_any _ (HV.out.to2 (HE4.out.2.2.2.2))).mono ?_
                            rintro e w6 ⟨rfl, hbz⟩
                            have HBZ := Lib.hid (bel_call (HE4.out.2.2.2.2) hbz)
                            clear hbz
                            go_wp2_with fail
                            go_ret
                            exact ⟨rfl, HBZ.out⟩
end Go.Proofs.YtabdlldkkcjppaaDoor
