/-
  The contract of sawmillref34.valid.
-/
import Derived.Test.YtadflenmdfcflaaDoorWRefB
namespace Saw
theorem inRange_no (x : Sp) (k : Nat) (n lo hi : Int) (hk : (x.nums.zip x.ranges)[k]? = some (n, lo, hi)) (h : (decide (lo ≤ n) && decide (n ≤ hi)) = false) : inRangeP x = false := by
  rw [inRangeP, List.all_eq_false]
  exact ⟨_, List.mem_of_getElem? hk, by rw [h]; decide⟩
end Saw
namespace Go.Proofs.YtadflenmdfcflaaDoor
open Go.RowKit Saw Go.Sort

set_option maxRecDepth 100000 in
set_option maxHeartbeats 2000000 in
theorem valid_any (x : Sp) (w : World) :
    Calls Tryd.prog 31 #[.agg (spCells x).toArray] w fun e w' => e = .returned (.bool (inRangeP x)) ∧ Below w.heap.size w w' := by
  have c1 := spC1 x
  have c2 := spC2 x
  have c3 := spC3 x
  have c4 := spC4 x
  have c5 := spC5 x
  have c6 := spC6 x
  have c7 := spC7 x
  have c8 := spC8 x
  have c9 := spC9 x
  have c10 := spC10 x
  have c11 := spC11 x
  have c12 := spC12 x
  obtain ⟨r, hr⟩ : ∃ r, inRangeP x = r := ⟨_, rfl⟩
  rw [hr]
  have HR := Lib.hid hr
  clear hr
  go_enter Tryd.func31, Tryd.ntmps31
  go_wp2_with fail
  refine (from_any _ _ _ _).mono ?_
  rintro e w0 ⟨he, rfl⟩
  cases hb0 : (decide (3000 ≤ x.green) && decide (x.green ≤ 20000))
  · rw [hb0] at he
    subst he
    have hrf : r = false := by rw [← HR.out]; exact inRange_no x 0 _ _ _ rfl hb0
    subst hrf
    clear hb0
    go_wp2_with fail
    go_ret
    exact ⟨rfl, (Below.refl _ _).alloc (Nat.le_refl _) _⟩
  · rw [hb0] at he
    subst he
    have H0 := Lib.hid hb0
    clear hb0
    go_wp2_with fail
    refine (from_any _ _ _ _).mono ?_
    rintro e w1 ⟨he, rfl⟩
    cases hb1 : (decide (1 ≤ x.fast) && decide (x.fast ≤ 10000))
    · rw [hb1] at he
      subst he
      have hrf : r = false := by rw [← HR.out]; exact inRange_no x 1 _ _ _ rfl hb1
      subst hrf
      clear hb1
      go_wp2_with fail
      go_ret
      exact ⟨rfl, (Below.refl _ _).alloc (Nat.le_refl _) _⟩
    · rw [hb1] at he
      subst he
      have H1 := Lib.hid hb1
      clear hb1
      go_wp2_with fail
      refine (from_any _ _ _ _).mono ?_
      rintro e w2 ⟨he, rfl⟩
      cases hb2 : (decide (1 ≤ x.slow) && decide (x.slow ≤ x.fast))
      · rw [hb2] at he
        subst he
        have hrf : r = false := by rw [← HR.out]; exact inRange_no x 2 _ _ _ rfl hb2
        subst hrf
        clear hb2
        go_wp2_with fail
        go_ret
        exact ⟨rfl, (Below.refl _ _).alloc (Nat.le_refl _) _⟩
      · rw [hb2] at he
        subst he
        have H2 := Lib.hid hb2
        clear hb2
        go_wp2_with fail
        refine (from_any _ _ _ _).mono ?_
        rintro e w3 ⟨he, rfl⟩
        cases hb3 : (decide (1 ≤ x.grad) && decide (x.grad ≤ 20000))
        · rw [hb3] at he
          subst he
          have hrf : r = false := by rw [← HR.out]; exact inRange_no x 4 _ _ _ rfl hb3
          subst hrf
          clear hb3
          go_wp2_with fail
          go_ret
          exact ⟨rfl, (Below.refl _ _).alloc (Nat.le_refl _) _⟩
        · rw [hb3] at he
          subst he
          have H3 := Lib.hid hb3
          clear hb3
          go_wp2_with fail
          refine (from_any _ _ _ _).mono ?_
          rintro e w4 ⟨he, rfl⟩
          cases hb4 : (decide (0 ≤ x.safe) && decide (x.safe ≤ x.grad))
          · rw [hb4] at he
            subst he
            have hrf : r = false := by rw [← HR.out]; exact inRange_no x 3 _ _ _ rfl hb4
            subst hrf
            clear hb4
            go_wp2_with fail
            go_ret
            exact ⟨rfl, (Below.refl _ _).alloc (Nat.le_refl _) _⟩
          · rw [hb4] at he
            subst he
            have H4 := Lib.hid hb4
            clear hb4
            go_wp2_with fail
            refine (from_any _ _ _ _).mono ?_
            rintro e w5 ⟨he, rfl⟩
            cases hb5 : (decide (1 ≤ x.crack) && decide (x.crack ≤ 1000000))
            · rw [hb5] at he
              subst he
              have hrf : r = false := by rw [← HR.out]; exact inRange_no x 5 _ _ _ rfl hb5
              subst hrf
              clear hb5
              go_wp2_with fail
              go_ret
              exact ⟨rfl, (Below.refl _ _).alloc (Nat.le_refl _) _⟩
            · rw [hb5] at he
              subst he
              have H5 := Lib.hid hb5
              clear hb5
              go_wp2_with fail
              refine (from_any _ _ _ _).mono ?_
              rintro e w6 ⟨he, rfl⟩
              cases hb6 : (decide (200 ≤ x.temp) && decide (x.temp ≤ 1200))
              · rw [hb6] at he
                subst he
                have hrf : r = false := by rw [← HR.out]; exact inRange_no x 6 _ _ _ rfl hb6
                subst hrf
                clear hb6
                go_wp2_with fail
                go_ret
                exact ⟨rfl, (Below.refl _ _).alloc (Nat.le_refl _) _⟩
              · rw [hb6] at he
                subst he
                have H6 := Lib.hid hb6
                clear hb6
                go_wp2_with fail
                refine (from_any _ _ _ _).mono ?_
                rintro e w7 ⟨he, rfl⟩
                cases hb7 : (decide (100 ≤ x.depress) && decide (x.depress ≤ 400))
                · rw [hb7] at he
                  subst he
                  have hrf : r = false := by rw [← HR.out]; exact inRange_no x 7 _ _ _ rfl hb7
                  subst hrf
                  clear hb7
                  go_wp2_with fail
                  go_ret
                  exact ⟨rfl, (Below.refl _ _).alloc (Nat.le_refl _) _⟩
                · rw [hb7] at he
                  subst he
                  have H7 := Lib.hid hb7
                  clear hb7
                  go_wp2_with fail
                  refine (from_any _ _ _ _).mono ?_
                  rintro e w8 ⟨he, rfl⟩
                  cases hb8 : (decide (200 ≤ x.density) && decide (x.density ≤ 1500))
                  · rw [hb8] at he
                    subst he
                    have hrf : r = false := by rw [← HR.out]; exact inRange_no x 8 _ _ _ rfl hb8
                    subst hrf
                    clear hb8
                    go_wp2_with fail
                    go_ret
                    exact ⟨rfl, (Below.refl _ _).alloc (Nat.le_refl _) _⟩
                  · rw [hb8] at he
                    subst he
                    have H8 := Lib.hid hb8
                    clear hb8
                    go_wp2_with fail
                    refine (from_any _ _ _ _).mono ?_
                    rintro e w9 ⟨he, rfl⟩
                    cases hb9 : (decide (1000 ≤ x.stiff) && decide (x.stiff ≤ 30000))
                    · rw [hb9] at he
                      subst he
                      have hrf : r = false := by rw [← HR.out]; exact inRange_no x 9 _ _ _ rfl hb9
                      subst hrf
                      clear hb9
                      go_wp2_with fail
                      go_ret
                      exact ⟨rfl, (Below.refl _ _).alloc (Nat.le_refl _) _⟩
                    · rw [hb9] at he
                      subst he
                      have H9 := Lib.hid hb9
                      clear hb9
                      go_wp2_with fail
                      refine (from_any _ _ _ _).mono ?_
                      rintro e w10 ⟨he, rfl⟩
                      cases hb10 : (decide (0 ≤ x.knots) && decide (x.knots ≤ 1000))
                      · rw [hb10] at he
                        subst he
                        have hrf : r = false := by rw [← HR.out]; exact inRange_no x 10 _ _ _ rfl hb10
                        subst hrf
                        clear hb10
                        go_wp2_with fail
                        go_ret
                        exact ⟨rfl, (Below.refl _ _).alloc (Nat.le_refl _) _⟩
                      · rw [hb10] at he
                        subst he
                        have H10 := Lib.hid hb10
                        clear hb10
                        go_wp2_with fail
                        refine (from_any _ _ _ _).mono ?_
                        rintro e w11 ⟨he, rfl⟩
                        cases hb11 : (decide (0 ≤ x.shrink) && decide (x.shrink ≤ 200))
                        · rw [hb11] at he
                          subst he
                          have hrf : r = false := by rw [← HR.out]; exact inRange_no x 11 _ _ _ rfl hb11
                          subst hrf
                          clear hb11
                          go_wp2_with fail
                          go_ret
                          exact ⟨rfl, (Below.refl _ _).alloc (Nat.le_refl _) _⟩
                        · rw [hb11] at he
                          subst he
                          have H11 := Lib.hid hb11
                          clear hb11
                          have hrt : r = true := by rw [← HR.out]; simp only [inRangeP, Sp.nums, Sp.ranges, List.zip_cons_cons, List.zip_nil_left, List.all_cons, List.all_nil, H0.out, H1.out, H2.out, H3.out, H4.out, H5.out, H6.out, H7.out, H8.out, H9.out, H10.out, H11.out, Bool.and_true]
                          subst hrt
                          go_wp2_with fail
                          go_ret
                          exact ⟨rfl, (Below.refl _ _).alloc (Nat.le_refl _) _⟩

end Go.Proofs.YtadflenmdfcflaaDoor
