/-
  The contracts of sawmillref34's from and Shrunk; WoodShrinks and WoodDries walked.
-/
import Derived.Test.YtadflenmdfcflaaDoorWoodK
import Derived.Test.YtadflenmdfcflaaDoorSpOpen
namespace Saw
theorem shrunkP_bd (s size moist : Int) (h0 : 0 ≤ size) (h1 : size ≤ 20000) (h2 : 0 ≤ s) (h3 : s ≤ 200) : 0 ≤ shrunkP s size moist ∧ shrunkP s size moist ≤ size := by
  have hc := clampP_bd moist
  rw [shrunkP, if_neg (by omega)]
  generalize clampP moist 0 3000 = c at hc ⊢
  have m1 : 0 ≤ size * s := Int.mul_nonneg h0 h2
  have m2 : size * s ≤ size * 200 := Int.mul_le_mul_of_nonneg_left h3 h0
  have m3 : 0 ≤ size * s * (3000 - c) := Int.mul_nonneg m1 (by omega)
  have m4 : size * s * (3000 - c) ≤ size * s * 3000 := Int.mul_le_mul_of_nonneg_left (by omega) m1
  omega
theorem shrunkP_moist (s size m m' : Int) (h0 : 0 ≤ size) (h1 : size ≤ 20000) (h2 : 0 ≤ s) (h3 : s ≤ 200) (hm : m ≤ m') : shrunkP s size m ≤ shrunkP s size m' := by
  rw [shrunkP, shrunkP, if_neg (by omega), if_neg (by omega)]
  have hc : clampP m 0 3000 ≤ clampP m' 0 3000 := by unfold clampP; (repeat' split) <;> omega
  generalize clampP m 0 3000 = c at hc ⊢
  generalize clampP m' 0 3000 = c' at hc ⊢
  have m1 : 0 ≤ size * s := Int.mul_nonneg h0 h2
  have m4 : size * s * (3000 - c') ≤ size * s * (3000 - c) := Int.mul_le_mul_of_nonneg_left (by omega) m1
  omega
theorem shrunkP_size (s a b m : Int) (h0 : 0 ≤ a) (hab : a ≤ b) (h1 : b ≤ 20000) (h2 : 0 ≤ s) (h3 : s ≤ 200) : shrunkP s a m ≤ shrunkP s b m := by
  rw [shrunkP, shrunkP, if_neg (by omega), if_neg (by omega)]
  have hc := clampP_bd m
  generalize clampP m 0 3000 = c at hc ⊢
  have e : b * s * (3000 - c) = a * s * (3000 - c) + (b - a) * s * (3000 - c) := by rw [← Int.add_mul, ← Int.add_mul]; congr 2; omega
  have m1 : 0 ≤ (b - a) * s := Int.mul_nonneg (by omega) h2
  have m2 : (b - a) * s ≤ (b - a) * 200 := Int.mul_le_mul_of_nonneg_left h3 (by omega)
  have m4 : (b - a) * s * (3000 - c) ≤ (b - a) * s * 3000 := Int.mul_le_mul_of_nonneg_left (by omega) m1
  rw [e]
  omega
theorem shrunkP_wet (s size m : Int) (hm : 3000 ≤ m) : shrunkP s size m = size := by
  rw [shrunkP]
  split
  · rfl
  · have : clampP m 0 3000 = 3000 := by unfold clampP; (repeat' split) <;> omega
    rw [this]; simp
end Saw
namespace Go.Proofs.YtadflenmdfcflaaDoor
open Go.RowKit Saw Go.Sort

set_option maxHeartbeats 400000 in
theorem from_any (n lo hi : Int) (w : World) :
    Calls Tryd.prog 34 #[.int .i64 n, .int .i64 lo, .int .i64 hi] w fun e w' => e = .returned (.bool (decide (lo ≤ n) && decide (n ≤ hi))) ∧ w = w' := by
  go_enter Tryd.func34, Tryd.ntmps34
  go_wp2
  all_goals
    go_ret
    refine ⟨ret_bool ?_, rfl⟩
    rw [Bool.eq_iff_iff]; simp; omega

set_option maxHeartbeats 1000000 in
theorem refShrunk_any (x : Sp) (size moist : Int) (w : World) :
    Calls Tryd.prog 21 #[.agg (spCells x).toArray, .int .i64 size, .int .i64 moist] w fun e w' => e = .returned (.int .i64 (shrunkP x.shrink size moist)) ∧ Below w.heap.size w w' := by
  have c12 := spC12 x
  obtain ⟨r, hr⟩ : ∃ r, shrunkP x.shrink size moist = r := ⟨_, rfl⟩
  rw [hr]
  unfold shrunkP at hr
  by_cases h1 : size < 0 ∨ 20000 < size
  · rw [if_pos (by omega)] at hr
    subst hr
    have hb : (decide (0 ≤ size) && decide (size ≤ 20000)) = false := by simp; omega
    have HB := Lib.hid hb
    clear hb
    go_enter Tryd.func21, Tryd.ntmps21
    go_wp2_with fail
    refine (from_any _ _ _ _).mono ?_
    rintro e w1 ⟨he, rfl⟩
    rw [HB.out] at he
    subst he
    go_wp2_with fail
    go_ret
    exact ⟨rfl, (Below.refl _ _).alloc (Nat.le_refl _) _⟩
  · have hb : (decide (0 ≤ size) && decide (size ≤ 20000)) = true := by simp; omega
    have HB := Lib.hid hb
    clear hb
    by_cases h3 : x.shrink < 0 ∨ 200 < x.shrink
    · rw [if_pos (by omega)] at hr
      subst hr
      have hb2 : (decide (0 ≤ x.shrink) && decide (x.shrink ≤ 200)) = false := by simp; omega
      have HB2 := Lib.hid hb2
      clear hb2
      go_enter Tryd.func21, Tryd.ntmps21
      go_wp2_with fail
      refine (from_any _ _ _ _).mono ?_
      rintro e w1 ⟨he, rfl⟩
      rw [HB.out] at he
      subst he
      go_wp2_with fail
      refine (from_any _ _ _ _).mono ?_
      rintro e w1 ⟨he, rfl⟩
      rw [HB2.out] at he
      subst he
      go_wp2_with fail
      go_ret
      exact ⟨rfl, (Below.refl _ _).alloc (Nat.le_refl _) _⟩
    · rw [if_neg (by omega)] at hr
      have hb2 : (decide (0 ≤ x.shrink) && decide (x.shrink ≤ 200)) = true := by simp; omega
      have HB2 := Lib.hid hb2
      clear hb2
      have hcb := clampP_bd moist
      have hcm : clampP moist 0 3000 = min (max moist 0) 3000 := by unfold clampP; (repeat' split) <;> omega
      obtain ⟨c, hc⟩ : ∃ c, clampP moist 0 3000 = c := ⟨_, rfl⟩
      rw [hc] at hr hcb hcm
      have HR := Lib.hid hr
      have HC := Lib.hid hcm
      obtain ⟨s, hs⟩ : ∃ s, x.shrink = s := ⟨_, rfl⟩
      rw [hs] at c12 h3 HB2
      have HS := Lib.hid hs
      have m1 : 0 ≤ size * s := Int.mul_nonneg (by omega) (by omega)
      have m2 : size * s ≤ 20000 * 200 := Int.mul_le_mul (by omega) (by omega) (by omega) (by omega)
      have m3 : 0 ≤ size * s * (3000 - c) := Int.mul_nonneg m1 (by omega)
      have m4 : size * s * (3000 - c) ≤ 20000 * 200 * 3000 := Int.mul_le_mul m2 (by omega) (by omega) (by omega)
      rw [hcm] at m3 m4
      clear hr hc hs hcm
      go_enter Tryd.func21, Tryd.ntmps21
      go_wp2_with fail
      refine (from_any _ _ _ _).mono ?_
      rintro e w1 ⟨he, rfl⟩
      rw [HB.out] at he
      subst he
      go_wp2_with fail
      refine (from_any _ _ _ _).mono ?_
      rintro e w1 ⟨he, rfl⟩
      rw [HB2.out] at he
      subst he
      go_wp2_with fail
      go_ret
      refine ⟨ret_int ?_, (Below.refl _ _).alloc (Nat.le_refl _) _⟩
      rw [← HR.out, HS.out, ← HC.out]

end Go.Proofs.YtadflenmdfcflaaDoor
