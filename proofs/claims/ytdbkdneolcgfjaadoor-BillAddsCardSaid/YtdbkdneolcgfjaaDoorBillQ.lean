/-
  Plain laws of amounts and totals: rounding, monotony, sums.
-/
import Derived.Test.YtdbkdneolcgfjaaDoorBillG
namespace Saw
theorem amtP_eq (v p : Int) : amtP v p = (v * p + 500000000) / 1000000000 := by
  have h : v / 1000000000 * 1000000000 + v % 1000000000 = v := by omega
  have e : v * p + 500000000 = (v % 1000000000 * p + 500000000) + v / 1000000000 * p * 1000000000 := by
    have : v * p = v / 1000000000 * 1000000000 * p + v % 1000000000 * p := by rw [← Int.add_mul, h]
    rw [this, Int.mul_right_comm]
    omega
  rw [amtP, e, Int.add_mul_ediv_right _ _ (by decide)]
  omega
theorem amount_err {c : List Pr} {i : It} (h : (amountP c i).2 ≠ 0) : (amountP c i).1 = 0 := by
  unfold amountP at h ⊢
  split
  · rfl
  · rename_i hc
    rw [if_neg hc] at h
    unfold amountOk at h ⊢
    split
    · rfl
    · rename_i h1
      rw [if_neg h1] at h
      split
      · rfl
      · rename_i h2
        rw [if_neg h2] at h
        split
        · rfl
        · rename_i h3
          rw [if_neg h3] at h
          exact absurd rfl h
/-- An item with an amount: its product, and the exact value. -/
theorem amount_exact {c : List Pr} {i : It} {a : Int} (h : amountP c i = (a, 0)) : ∃ (k : Nat) (x : Pr), i.product = k ∧ c[k]? = some x ∧ i.length ∈ x.lens ∧ checkPr c = 0 ∧ 0 ≤ i.count ∧ i.count ≤ 200 ∧ 0 ≤ i.price ∧ i.price ≤ 1000000000 ∧ a = (volumeP x i.length * i.count * i.price + 500000000) / 1000000000 := by
  have h2 : (amountP c i).2 = 0 := by rw [h]
  have ha : (amountP c i).1 = a := by rw [h]
  unfold amountP at h2 ha
  split at h2
  · rename_i hc; exact absurd h2 hc
  · rename_i hc
    rw [if_neg hc] at ha
    unfold amountOk at h2 ha
    split at h2
    · cases h2
    · rename_i h1
      rw [if_neg h1] at ha
      split at h2
      · cases h2
      · rename_i h3
        rw [if_neg h3] at ha
        split at h2
        · cases h2
        · rename_i h4
          rw [if_neg h4] at ha
          have hk : i.product.toNat < c.length := by omega
          have hx : c[i.product.toNat]? = some c[i.product.toNat] := List.getElem?_eq_getElem hk
          have hg : c.getD i.product.toNat Pr.zero = c[i.product.toNat] := by rw [List.getD_eq_getElem?_getD, hx]; rfl
          rw [hg] at h3 ha
          exact ⟨i.product.toNat, _, by omega, hx, by simpa using h3, by simpa using hc, by omega, by omega, by omega, by omega, by rw [← ha, amtP_eq]⟩
theorem amount_more {c : List Pr} {i j : It} {a : Int} (h : amountP c i = (a, 0)) (hp : j.product = i.product) (hl : j.length = i.length) (h0 : i.price ≤ j.price) (h1 : i.count ≤ j.count) :
    amountP c j = (0, 9) ∨ ∃ b, amountP c j = (b, 0) ∧ a ≤ b := by
  obtain ⟨k, x, e1, e2, e3, e4, e5, e6, e7, e8, e9⟩ := amount_exact h
  have hkl := (List.getElem?_eq_some_iff.1 e2).1
  have hg : c.getD i.product.toNat Pr.zero = x := by rw [e1, Int.toNat_natCast, List.getD_eq_getElem?_getD, e2]; rfl
  have hj : amountP c j = if j.count < 0 ∨ 200 < j.count ∨ j.price < 0 ∨ 1000000000 < j.price then (0, 9) else (amtP (volumeP x i.length * j.count) j.price, 0) := by
    rw [amountP, if_neg (by simp [e4]), amountOk, if_neg (by rw [hp]; omega), hp, hl, hg, if_neg (by simpa using e3)]
  rw [hj]
  split
  · exact .inl rfl
  · rename_i hr
    refine .inr ⟨_, rfl, ?_⟩
    rw [amtP_eq, e9]
    have vb := volume_bd x i.length
    have m1 : volumeP x i.length * i.count ≤ volumeP x i.length * j.count := Int.mul_le_mul_of_nonneg_left h1 vb.1
    have m0 : 0 ≤ volumeP x i.length * i.count := Int.mul_nonneg vb.1 e5
    have m2 : volumeP x i.length * i.count * i.price ≤ volumeP x i.length * j.count * j.price := Int.mul_le_mul m1 h0 e7 (Int.le_trans m0 m1)
    omega

/-! ### Totals -/
theorem discount_nil {n : Int} (h0 : 0 ≤ n) (h1 : n ≤ 1000000000000000) : discountP [] n = (0, 0) := by
  unfold discountP
  rw [if_neg (by simp), if_neg (by rw [tiersFrom_end (by simp)]; simp), if_neg (by omega)]
  simp [offL]
theorem sums_nil (c : List Pr) (l : List It) : sumsP c l [] = if (sumP c l).2.2 ≠ 0 then ([], 0, 0, (sumP c l).2.2) else ((sumP c l).1, (sumP c l).2.1, 0, 0) := by
  have hb := sumP_bd c l
  unfold sumsP
  rw [discount_nil hb.1 (by omega)]
  simp
theorem total_nil {c : List Pr} {l : List It} {a e : Int} (h : totalP c l [] = (a, e)) : e = (sumP c l).2.2 ∧ (e = 0 → a = (sumP c l).2.1) := by
  unfold totalP at h
  rw [sums_nil] at h
  split at h
  · rename_i hc
    simp only [Prod.mk.injEq] at h
    exact ⟨h.2.symm, fun he => absurd (h.2.trans he) hc⟩
  · rename_i hc
    simp only [Prod.mk.injEq] at h
    have hz : (sumP c l).2.2 = 0 := by simpa using hc
    exact ⟨by rw [hz]; exact h.2.symm, fun _ => by rw [← h.1]; simp⟩
theorem sumL_app {c : List Pr} (r : List It) : ∀ (l : List It) (acc am : List Int) (n s : Int), sumL c l acc n = (am, s, 0) → sumL c (l ++ r) acc n = sumL c r am s
  | [], acc, am, n, s, h => by
    simp only [sumL, Prod.mk.injEq, and_true] at h
    obtain ⟨rfl, rfl⟩ := h
    rfl
  | i :: l, acc, am, n, s, h => by
    rw [sumL] at h
    rw [List.cons_append, sumL]
    by_cases hz : (amountP c i).2 = 0
    · rw [if_neg (by simp [hz])] at h ⊢
      exact sumL_app r l _ am _ s h
    · rw [if_pos hz] at h
      exact absurd (congrArg (·.2.2) h) hz
theorem sumL_shift {c : List Pr} : ∀ (l : List It) (acc acc' : List Int) (n n' : Int) (am : List Int) (s : Int), sumL c l acc n = (am, s, 0) → ∃ am', sumL c l acc' n' = (am', s - n + n', 0)
  | [], acc, acc', n, n', am, s, h => by
    simp only [sumL, Prod.mk.injEq, and_true] at h
    obtain ⟨_, rfl⟩ := h
    exact ⟨acc', by rw [sumL]; congr 2; omega⟩
  | i :: l, acc, acc', n, n', am, s, h => by
    rw [sumL] at h ⊢
    by_cases hz : (amountP c i).2 = 0
    · rw [if_neg (by simp [hz])] at h ⊢
      obtain ⟨am', h'⟩ := sumL_shift l _ (acc' ++ [(amountP c i).1]) _ (n' + (amountP c i).1) am s h
      exact ⟨am', by rw [h']; congr 2; omega⟩
    · rw [if_pos hz] at h
      exact absurd (congrArg (·.2.2) h) hz
/-- Without tiers totals add up. -/
theorem total_adds {c : List Pr} {l r : List It} {a b : Int} (ha : totalP c l [] = (a, 0)) (hb : totalP c r [] = (b, 0)) (hlen : l.length + r.length ≤ 32) : totalP c (l ++ r) [] = (a + b, 0) := by
  obtain ⟨h1, h2⟩ := total_nil ha
  obtain ⟨h3, h4⟩ := total_nil hb
  have hs1 : ∃ am, sumL c l [] 0 = (am, a, 0) := by
    have e : sumP c l = sumL c l [] 0 := by rw [sumP, if_neg (by omega)]
    exact ⟨(sumP c l).1, by rw [← e]; exact Prod.ext rfl (Prod.ext (h2 rfl).symm h1.symm)⟩
  have hs2 : ∃ am, sumL c r [] 0 = (am, b, 0) := by
    have e : sumP c r = sumL c r [] 0 := by rw [sumP, if_neg (by omega)]
    exact ⟨(sumP c r).1, by rw [← e]; exact Prod.ext rfl (Prod.ext (h4 rfl).symm h3.symm)⟩
  obtain ⟨am, e1⟩ := hs1
  obtain ⟨am2, e2⟩ := hs2
  obtain ⟨am3, e3⟩ := sumL_shift r [] am 0 a am2 b e2
  have e4 : sumP c (l ++ r) = (am3, b - 0 + a, 0) := by rw [sumP, if_neg (by rw [List.length_append]; omega), sumL_app r l [] am 0 a e1, e3]
  unfold totalP
  rw [sums_nil, e4, if_neg (by simp)]
  simp only
  congr 1
  omega
theorem total_tiers {c : List Pr} {l : List It} {t : List Ti} {a d : Int} (ha : totalP c l [] = (a, 0)) (hd : totalP c l t = (d, 0)) : 0 ≤ d ∧ d ≤ a := by
  obtain ⟨_, h2⟩ := total_nil ha
  have hsb := sumP_bd c l
  have hdb := discount_bd t (sumP c l).2.1 hsb.1
  rw [total_ref] at hd
  rw [h2 rfl]
  split at hd
  · rename_i h; exact absurd (congrArg (·.2) hd) h
  · split at hd
    · rename_i h; exact absurd (congrArg (·.2) hd) h
    · have : (sumP c l).2.1 - (discountP t (sumP c l).2.1).1 = d := congrArg (·.1) hd
      omega
end Saw
