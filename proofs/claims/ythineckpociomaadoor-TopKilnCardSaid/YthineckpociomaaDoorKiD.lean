/-
  The contracts of moist's Check, Gradient, computable, Tick; units.Clamp, Toward; air.Check.
-/
import Derived.Test.YthineckpociomaaDoorKiC
import Derived.Test.YthineckpociomaaDoorShelf
namespace Go.Proofs.YthineckpociomaaDoor
open Go.RowKit Saw

set_option maxHeartbeats 400000 in
theorem clamp_any (n lo hi : Int) (w : World) :
    Calls Tryd.prog 52 #[.int .i64 n, .int .i64 lo, .int .i64 hi] w fun e w' => e = .returned (.int .i64 (clampP n lo hi)) ∧ w' = w := by
  go_enter Tryd.func52, Tryd.ntmps52
  go_wp2
  all_goals
    go_ret
    refine ⟨ret_int ?_, rfl⟩
    unfold clampP
    (repeat' split) <;> omega

set_option maxRecDepth 100000 in
set_option maxHeartbeats 1000000 in
theorem moistCheck_any (c : Cl) (w : World) : Calls Tryd.prog 17 #[.agg #[.int .i64 c.surf, .int .i64 c.core, .int .i64 c.stress]] w (IntB (checkCl c) w) := by
  obtain ⟨r, hr⟩ : ∃ r, checkCl c = r := ⟨_, rfl⟩
  rw [hr]
  unfold checkCl at hr
  have HR := Lib.hid hr
  clear hr
  go_enter Tryd.func17, Tryd.ntmps17
  go_wp2
  all_goals
    go_ret
    refine ⟨ret_int ?_, bel_alloc (Below.refl _ _)⟩
    rw [← HR.out]
    (repeat' split) <;> first | rfl | omega | simp_all <;> omega

set_option maxRecDepth 100000 in
set_option maxHeartbeats 1000000 in
theorem airCheck_any (c : Cm) (w : World) (hc : airOk c) : Calls Tryd.prog 72 #[.agg #[.int .i64 c.temp, .int .i64 c.dep]] w (IntB 0 w) := by
  obtain ⟨h1, h2, h3, h4⟩ := hc
  go_enter Tryd.func72, Tryd.ntmps72
  go_wp2_with fail
  go_ret
  exact ⟨rfl, bel_alloc (Below.refl _ _)⟩

set_option maxRecDepth 100000 in
set_option maxHeartbeats 1000000 in
theorem gradient_any (c : Cl) (w : World) : Calls Tryd.prog 6 #[.agg #[.int .i64 c.surf, .int .i64 c.core, .int .i64 c.stress]] w (IntB (gradP c) w) := by
  obtain ⟨r, hr⟩ : ∃ r, gradP c = r := ⟨_, rfl⟩
  obtain ⟨q, hq⟩ : ∃ q, checkCl c = q := ⟨_, rfl⟩
  rw [hr]
  unfold gradP at hr
  rw [hq] at hr
  have HN : w.heap.size < w.heap.size + 1 := by omega
  obtain ⟨W0, hW0⟩ : ∃ W0, w.alloc (.cells #[.int .i64 c.surf, .int .i64 c.core, .int .i64 c.stress] 38) = W0 := ⟨_, rfl⟩
  have HB0 := Lib.hid (show Below w.heap.size w W0 by rw [← hW0]; exact bel_alloc (Below.refl _ _))
  have HS0 := Lib.hid (show W0.heap.size = w.heap.size + 1 by rw [← hW0, World.size_alloc])
  have HC0 := Lib.hid (show W0.heap[w.heap.size]? = some (.cells #[.int .i64 c.surf, .int .i64 c.core, .int .i64 c.stress] 38 (0, 0)) by rw [← hW0]; exact heap_alloc_last w _)
  obtain ⟨q0, q1, q2⟩ := cells3 HC0.out
  have HR := Lib.hid hr
  have HQ := Lib.hid hq
  clear hr hq
  go_enter Tryd.func6, Tryd.ntmps6
  go_wp2_with fail
  refine (moistCheck_any c _).mono ?_
  rintro e w1 ⟨he, hb1⟩
  subst he
  rw [HQ.out]
  have HB1 := Lib.hid hb1
  have HN1 := Lib.hid (HB0.out.trans (hb1.mono (by have := HS0.out; omega)))
  obtain ⟨p0, p1, p2⟩ := cells3 ((hb1.block w.heap.size (by rw [HS0.out]; omega)).trans HC0.out)
  clear hb1
  by_cases h0 : q = 0
  · have hk := checkCl_ok.1 (HQ.out.trans h0)
    subst h0
    have hr := HR.out
    rw [if_pos rfl] at hr
    subst hr
    obtain ⟨k1, k2, k3, k4, _, _⟩ := hk
    go_wp2_with fail
    go_ret
    exact ⟨rfl, HN1.out⟩
  · have hr := HR.out
    rw [if_neg h0] at hr
    subst hr
    have hqb : (q != 0) = true := by rw [bne_iff_ne]; exact h0
    go_wp2_with fail
    go_ret
    exact ⟨rfl, HN1.out⟩

set_option maxHeartbeats 1000000 in
theorem div64_any (x : Int) (w : World) (h0 : 0 ≤ x) (h1 : x < 18446744073709551616) : Calls Tryd.prog 74 #[.int .u64 0, .int .u64 x, .int .u64 10000] w fun e w' => e = .returned (.tuple #[.int .u64 (x / 10000), .int .u64 (x % 10000)]) ∧ ∃ n, w' = w.drewN n := by
  go_enter Tryd.func74, Tryd.ntmps74
  go_wp2_with fail
  go_quiet (fail)
  go_wp2_with fail
  go_ret2
  exact ⟨rfl, _, rfl⟩
theorem moveN {d k : Int} (h0 : 0 ≤ d) (h1 : d ≤ 1000000) (h2 : 0 ≤ k) (h3 : k ≤ 10000) : d.toNat * k.toNat / 18446744073709551616 = 0 ∧ ((d.toNat * k.toNat % 18446744073709551616 : Nat) : Int) = d * k ∧ 0 ≤ d * k ∧ d * k ≤ 10000000000 := by
  have h4 : d.toNat * k.toNat ≤ 1000000 * 10000 := Nat.mul_le_mul (by omega) (by omega)
  have h5 : ((d.toNat * k.toNat : Nat) : Int) = d * k := by
    rw [Int.natCast_mul, Int.toNat_of_nonneg h0, Int.toNat_of_nonneg h2]
  refine ⟨by omega, by rw [Nat.mod_eq_of_lt (by omega)]; exact h5, by omega, by omega⟩

theorem mul64_any {d k m : Int} (w : World) (h0 : 0 ≤ d) (h1 : d ≤ 1000000) (h2 : 0 ≤ k) (h3 : k ≤ 10000) (hm : d * k = m) : Calls Tryd.prog 73 #[.int .u64 d, .int .u64 k] w fun e w' => e = .returned (.tuple #[.int .u64 0, .int .u64 m]) ∧ w' = w := by
  obtain ⟨e1, e2, _, _⟩ := moveN h0 h1 h2 h3
  have h := Tryd.bits_Mul64 d.toNat k.toNat (by omega) (by omega) w
  rw [e1, e2, Int.toNat_of_nonneg h0, Int.toNat_of_nonneg h2, hm] at h
  exact h
set_option maxRecDepth 100000 in
set_option maxHeartbeats 1000000 in
theorem toward_any (a b k : Int) (w : World) (ha : 0 ≤ a ∧ a ≤ 1000000) (hb : 0 ≤ b ∧ b ≤ 1000000) (hk : 0 ≤ k ∧ k ≤ 10000) : Calls Tryd.prog 58 #[.int .i64 a, .int .i64 b, .int .i64 k] w fun e w' => e = .returned (.int .i64 (towardP a b k)) ∧ ∃ n, w' = w.drewN n := by
  obtain ⟨r, hr⟩ : ∃ r, towardP a b k = r := ⟨_, rfl⟩
  rw [hr]
  unfold towardP at hr
  have hck : clampP k 0 10000 = k := by unfold clampP; rw [if_neg (by omega), if_neg (by omega)]
  rw [hck] at hr
  have HCK := Lib.hid hck
  clear hck
  by_cases h0 : k = 0
  · have hkb : (k == 0) = true := by rw [beq_iff_eq]; exact h0
    rw [if_pos (.inl h0)] at hr
    subst hr
    clear h0
    go_enter Tryd.func58, Tryd.ntmps58
    go_wp2_with fail
    refine (clamp_any k 0 10000 _).mono ?_
    rintro e w1 ⟨rfl, rfl⟩
    rw [HCK.out]
    go_wp2_with fail
    go_ret
    exact ⟨rfl, 0, rfl⟩
  have hkb : (k == 0) = false := by rw [beq_eq_false_iff_ne]; exact h0
  by_cases h1 : a = b
  · have hab : (a == b) = true := by rw [beq_iff_eq]; exact h1
    rw [if_pos (.inr h1)] at hr
    subst hr
    clear h0 h1
    go_enter Tryd.func58, Tryd.ntmps58
    go_wp2_with fail
    refine (clamp_any k 0 10000 _).mono ?_
    rintro e w1 ⟨rfl, rfl⟩
    rw [HCK.out]
    go_wp2_with fail
    go_ret
    exact ⟨rfl, 0, rfl⟩
  have hab : (a == b) = false := by rw [beq_eq_false_iff_ne]; exact h1
  rw [if_neg (by omega)] at hr
  by_cases h2 : b < a
  · rw [if_pos h2] at hr
    obtain ⟨d, hd⟩ : ∃ d, a - b = d := ⟨_, rfl⟩
    rw [hd] at hr
    obtain ⟨_, _, e3, e4⟩ := moveN (d := d) (k := k) (by omega) (by omega) hk.1 hk.2
    obtain ⟨m, hm⟩ : ∃ m, d * k = m := ⟨_, rfl⟩
    obtain ⟨z, hz⟩ : ∃ z, m / 10000 = z := ⟨_, rfl⟩
    have hz0 : 0 ≤ z ∧ z ≤ 1000000 := by omega
    rw [moveP, hm, hz] at hr
    obtain ⟨z1, z2⟩ := moveP_le (d := d) (k := k) (by omega) hk.1 hk.2
    rw [moveP, hm, hz] at z1 z2
    rw [hm] at e3 e4
    have HR := Lib.hid hr
    have HMM := Lib.hid hm
    have HZ := Lib.hid hz
    have hd0 : 0 ≤ d ∧ d ≤ 1000000 := by omega
    clear hr hm h0 h1 hz
    go_enter Tryd.func58, Tryd.ntmps58
    go_wp2_with fail
    refine (clamp_any k 0 10000 _).mono ?_
    rintro e w1 ⟨rfl, rfl⟩
    rw [HCK.out]
    go_wp2_with fail
    refine (mul64_any (d := d) (k := k) (m := m) _ hd0.1 hd0.2 hk.1 hk.2 HMM.out).mono ?_
    rintro e w1 ⟨rfl, rfl⟩
    go_wp2_with fail
    refine (div64_any m _ (by omega) (by omega)).mono ?_
    rintro e w1 ⟨he, n, rfl⟩
    rw [HZ.out] at he
    subst he
    go_wp2_with fail
    all_goals
      go_ret
      refine ⟨ret_int ?_, _, rfl⟩
      have hr := HR.out
      omega
  · rw [if_neg h2] at hr
    obtain ⟨d, hd⟩ : ∃ d, b - a = d := ⟨_, rfl⟩
    rw [hd] at hr
    obtain ⟨_, _, e3, e4⟩ := moveN (d := d) (k := k) (by omega) (by omega) hk.1 hk.2
    obtain ⟨m, hm⟩ : ∃ m, d * k = m := ⟨_, rfl⟩
    obtain ⟨z, hz⟩ : ∃ z, m / 10000 = z := ⟨_, rfl⟩
    have hz0 : 0 ≤ z ∧ z ≤ 1000000 := by omega
    rw [moveP, hm, hz] at hr
    obtain ⟨z1, z2⟩ := moveP_le (d := d) (k := k) (by omega) hk.1 hk.2
    rw [moveP, hm, hz] at z1 z2
    rw [hm] at e3 e4
    have HR := Lib.hid hr
    have HMM := Lib.hid hm
    have HZ := Lib.hid hz
    have hd0 : 0 ≤ d ∧ d ≤ 1000000 := by omega
    clear hr hm h0 h1 hz
    go_enter Tryd.func58, Tryd.ntmps58
    go_wp2_with fail
    refine (clamp_any k 0 10000 _).mono ?_
    rintro e w1 ⟨rfl, rfl⟩
    rw [HCK.out]
    go_wp2_with fail
    refine (mul64_any (d := d) (k := k) (m := m) _ hd0.1 hd0.2 hk.1 hk.2 HMM.out).mono ?_
    rintro e w1 ⟨rfl, rfl⟩
    go_wp2_with fail
    refine (div64_any m _ (by omega) (by omega)).mono ?_
    rintro e w1 ⟨he, n, rfl⟩
    rw [HZ.out] at he
    subst he
    go_wp2_with fail
    all_goals
      go_ret
      refine ⟨ret_int ?_, _, rfl⟩
      have hr := HR.out
      omega
end Go.Proofs.YthineckpociomaaDoor
