/-
  Plain laws of sums and of texts; the contracts of bill.Total, sawmillref50.Total and decimal.
-/
import Derived.Test.YtdbkdneolcgfjaaDoorBillE
namespace Saw
theorem offL_bd {total : Int} : ∀ (l : List Ti) (o : Int), (∀ t ∈ l, 0 ≤ t.off ∧ t.off ≤ 1000) → 0 ≤ o → o ≤ 1000 → 0 ≤ offL total l o ∧ offL total l o ≤ 1000
  | [], o, _, h0, h1 => ⟨h0, h1⟩
  | t :: r, o, h, h0, h1 => by
    rw [offL]
    have ht := h t (by simp)
    refine offL_bd r _ (fun u hu => h u (by simp [hu])) ?_ ?_ <;> split <;> omega
theorem discount_bd (t : List Ti) (n : Int) (h : 0 ≤ n) : 0 ≤ (discountP t n).1 ∧ (discountP t n).1 ≤ n := by
  unfold discountP
  split
  · exact ⟨Int.le_refl _, h⟩
  · split
    · exact ⟨Int.le_refl _, h⟩
    · split
      · exact ⟨Int.le_refl _, h⟩
      · rename_i h2 _
        have hb := offL_bd (total := n) t 0 (fun u hu => by
          obtain ⟨i, hi, rfl⟩ := List.getElem_of_mem hu
          exact tiers_ok _ 0 (Nat.le_refl _) (by simpa using h2) i _ (Nat.zero_le _) (List.getElem?_eq_getElem hi)) (by omega) (by omega)
        have h3 : 0 ≤ n * offL n t 0 := Int.mul_nonneg h hb.1
        have h4 : n * offL n t 0 ≤ n * 1000 := Int.mul_le_mul_of_nonneg_left hb.2 h
        simp only
        omega
theorem amount_bd' (c : List Pr) (i : It) : 0 ≤ (amountP c i).1 ∧ (amountP c i).1 ≤ 1500000000000 := Go.Proofs.YtdbkdneolcgfjaaDoor.amount_bd c i
theorem sumL_ok {c : List Pr} : ∀ (l : List It) (acc am : List Int) (n s : Int), sumL c l acc n = (am, s, 0) →
    (∀ i ∈ l, (amountP c i).2 = 0) ∧ am = acc ++ l.map (fun i => (amountP c i).1) ∧ n ≤ s ∧ s ≤ n + l.length * 1500000000000
  | [], acc, am, n, s, h => by
    simp only [sumL, Prod.mk.injEq, and_true] at h
    obtain ⟨rfl, rfl⟩ := h
    exact ⟨by simp, by simp, by omega, by simp⟩
  | i :: r, acc, am, n, s, h => by
    rw [sumL] at h
    by_cases hz : (amountP c i).2 = 0
    · rw [if_neg (by simp [hz])] at h
      obtain ⟨h1, h2, h3, h4⟩ := sumL_ok r _ am _ s h
      have hb := amount_bd' c i
      refine ⟨?_, ?_, by omega, ?_⟩
      · intro j hj
        rcases List.mem_cons.1 hj with rfl | hj
        · exact hz
        · exact h1 j hj
      · rw [h2]; simp
      · rw [List.length_cons]; omega
    · rw [if_pos hz] at h
      exact absurd (congrArg (·.2.2) h) hz
theorem sumP_bd (c : List Pr) (l : List It) : 0 ≤ (sumP c l).2.1 ∧ (sumP c l).2.1 ≤ 48000000000000 := by
  unfold sumP
  split
  · simp
  · rename_i h32
    obtain ⟨am, s, e, h⟩ : ∃ am s e, sumL c l [] 0 = (am, s, e) := ⟨_, _, _, rfl⟩
    rw [h]
    by_cases he : e = 0
    · subst he
      obtain ⟨_, _, h3, h4⟩ := sumL_ok l [] am 0 s h
      simp only
      omega
    · have key : ∀ (l : List It) (acc : List Int) (n : Int), sumL c l acc n = (am, s, e) → s = 0 := by
        intro l
        induction l with
        | nil => intro acc n h; simp only [sumL, Prod.mk.injEq] at h; exact absurd h.2.2.symm he
        | cons i r ih =>
          intro acc n h
          rw [sumL] at h
          split at h
          · simp only [Prod.mk.injEq] at h; exact h.2.1.symm
          · exact ih _ _ h
      simp only [key l [] 0 h]
      omega
theorem sums_bd (c : List Pr) (l : List It) (t : List Ti) : 0 ≤ (sumsP c l t).2.1 ∧ (sumsP c l t).2.1 ≤ 48000000000000 ∧ 0 ≤ (sumsP c l t).2.2.1 ∧ (sumsP c l t).2.2.1 ≤ (sumsP c l t).2.1 := by
  have h1 := sumP_bd c l
  have h2 := discount_bd t (sumP c l).2.1 h1.1
  unfold sumsP
  split
  · simp
  · split
    · simp
    · exact ⟨h1.1, h1.2, h2.1, h2.2⟩
/-- Totals, as the reference finds them. -/
theorem total_ref (c : List Pr) (l : List It) (t : List Ti) : totalP c l t = if (sumP c l).2.2 ≠ 0 then (0, (sumP c l).2.2) else if (discountP t (sumP c l).2.1).2 ≠ 0 then (0, (discountP t (sumP c l).2.1).2) else ((sumP c l).2.1 - (discountP t (sumP c l).2.1).1, 0) := by
  unfold totalP sumsP
  split
  · rfl
  · split <;> rfl
end Saw
namespace Go.Proofs.YtdbkdneolcgfjaaDoor
open Go.RowKit Saw Go.Sort

set_option maxRecDepth 100000 in
set_option maxHeartbeats 400000 in
theorem total_any (c : List Pr) (l : List It) (t : List Ti) (vc vl vt : Value) (w : World) (hc : RdPr w w.heap.size vc c) (hnm : ∀ x ∈ c, x.name.length ≤ 1000000) (hl : RdIt w w.heap.size vl l) (ht : RdTi w w.heap.size vt t) :
    Calls Tryd.prog 17 #[vc, vl, vt] w (AmtPost (totalP c l t) w) := by
  obtain ⟨b1, b2, b3, b4⟩ := sums_bd c l t
  obtain ⟨am, s, d, e, hs⟩ : ∃ am s d e, sumsP c l t = (am, s, d, e) := ⟨_, _, _, _, rfl⟩
  rw [hs] at b1 b2 b3 b4
  simp only at b1 b2 b3 b4
  have HS := Lib.hid hs
  have HT : Hid (totalP c l t = (s - d, e)) := by rw [totalP, hs]; rfl
  rw [HT.out]
  have H1 := Lib.hid hc
  have H2 := Lib.hid hnm
  have H3 := Lib.hid hl
  have H4 := Lib.hid ht
  clear hs hc hnm hl ht
  go_enter Tryd.func17, Tryd.ntmps17
  go_wp2_with fail
  refine (sums_any c l t _ _ _ _ H1.out H2.out H3.out H4.out).mono ?_
  rintro e' w1 ⟨v, he, _, hb⟩
  rw [HS.out] at he
  subst he
  have HB := Lib.hid hb
  clear hb
  go_wp2_with fail
  go_ret2
  exact ⟨rfl, HB.out⟩

set_option maxRecDepth 100000 in
set_option maxHeartbeats 400000 in
theorem refTotal_any (c : List Pr) (l : List It) (t : List Ti) (vc vl vt : Value) (w : World) (hc : RdPr w w.heap.size vc c) (hnm : ∀ x ∈ c, x.name.length ≤ 1000000) (hl : RdIt w w.heap.size vl l) (ht : RdTi w w.heap.size vt t) :
    Calls Tryd.prog 18 #[vc, vl, vt] w (AmtPost (totalP c l t) w) := by
  rw [total_ref]
  have b := sumP_bd c l
  obtain ⟨am, n, e, hs⟩ : ∃ am n e, sumP c l = (am, n, e) := ⟨_, _, _, rfl⟩
  rw [hs] at b ⊢
  obtain ⟨b1, b2⟩ := b
  simp only at b1 b2
  have db := discount_bd t n b1
  obtain ⟨d, f, hd⟩ : ∃ d f, discountP t n = (d, f) := ⟨_, _, rfl⟩
  simp only [hd] at db ⊢
  obtain ⟨d1, d2⟩ := db
  obtain ⟨r, hr⟩ : ∃ r, (if e ≠ 0 then ((0 : Int), e) else if f ≠ 0 then (0, f) else (n - d, 0)) = r := ⟨_, rfl⟩
  rw [hr]
  have HR := Lib.hid hr
  clear hr
  have HS := Lib.hid hs
  have HD := Lib.hid hd
  have H1 := Lib.hid hc
  have H2 := Lib.hid hnm
  have H3 := Lib.hid hl
  have H4 := Lib.hid ht
  clear hs hd hc hnm hl ht
  go_enter Tryd.func18, Tryd.ntmps18
  go_wp2_with fail
  refine (refSum_any c l _ _ _ H1.out H2.out H3.out).mono ?_
  rintro e' w1 ⟨v, he, _, hb⟩
  rw [HS.out] at he
  subst he
  have HB := Lib.hid hb
  have hsz := hb.size
  clear hb
  by_cases hz : e = 0
  · subst hz
    have HR2 := Lib.hid (show (if f ≠ 0 then ((0 : Int), f) else (n - d, 0)) = r by have h9 := HR.out; rw [if_neg (by simp)] at h9; exact h9)
    clear HR
    go_wp2_with fail
    refine (refDiscount_any t _ n _ (Rd.next H4.out HB.out)).mono ?_
    rintro e' w2 ⟨he, hb2⟩
    rw [HD.out] at he
    subst he
    have HB2 := Lib.hid (HB.out.trans (hb2.mono hsz))
    clear hb2
    by_cases hf : f = 0
    · subst hf
      have hrz : r = (n - d, 0) := by rw [← HR2.out, if_neg (by simp)]
      subst hrz
      clear HR2
      go_wp2_with fail
      go_ret2
      exact ⟨rfl, HB2.out⟩
    · have hfb : (f != 0) = true := by rw [bne_iff_ne]; exact hf
      have hrz : r = (0, f) := by rw [← HR2.out, if_pos hf]
      subst hrz
      clear hf HR2
      go_wp2_with fail
      go_ret2
      exact ⟨rfl, HB2.out⟩
  · have hfb : (e != 0) = true := by rw [bne_iff_ne]; exact hz
    have hrz : r = (0, e) := by rw [← HR.out, if_pos hz]
    subst hrz
    clear hz HR
    go_wp2_with fail
    go_ret2
    exact ⟨rfl, HB.out⟩

theorem dec_lenB (u : Nat) (h : u ≤ 1000000000000000) : (Lib.decDigits u).length ≤ 21 := by
  have := Lib.itoa_length_le (u : Int) (by omega) (by omega)
  unfold Lib.itoa at this
  rw [if_neg (by omega)] at this
  simpa using this
theorem conv_oneB (w : World) (u : Nat) :
    (convert 71 9 (.slice (some ⟨w.heap.size, 0, none⟩) 1 1)).run Tryd.prog (w.alloc (.cells #[.int .u8 (48 + (u : Int) % 10)] 5)) = .ok (.string (str [UInt8.ofNat (48 + u % 10)])) (w.alloc (.cells #[.int .u8 (48 + (u : Int) % 10)] 5)) := by
  refine run_convert_bytes_back _ _ _ 5 ⟨w.heap.size, 0, none⟩ 1 [UInt8.ofNat (48 + u % 10)] Tryd.underlying71 Tryd.underlying5 Tryd.underlying9 ?_
  intro j hj
  obtain rfl : j = 0 := by simpa using hj
  have hm : (UInt8.ofNat (48 + u % 10)).toNat = 48 + u % 10 := by rw [UInt8.toNat_ofNat']; omega
  have h0 := rangeAt_block (heap_alloc_last w (.cells #[.int .u8 (48 + (u : Int) % 10)] 5)) 0 _ rfl
  simp only [List.getElem_cons_zero, hm]
  refine Eq.trans h0 ?_
  congr 2

set_option maxRecDepth 100000 in
set_option maxHeartbeats 1000000 in
theorem decB_any (u : Nat) : u ≤ 1000000000000000 → ∀ w, Calls Tryd.prog 35 #[.int .i64 u] w fun e w' => e = .returned (.string (str (Lib.decDigits u))) ∧ Below w.heap.size w w' := by
  induction u using Nat.strongRecOn with
  | _ u ih =>
    intro hu w
    have hcv := conv_oneB w u
    by_cases h10 : u < 10
    · rw [Lib.decDigits_one h10]
      clear ih
      rw [show u % 10 = u from Nat.mod_eq_of_lt h10] at hcv
      obtain ⟨d, hd⟩ : ∃ d, UInt8.ofNat (48 + u) = d := ⟨_, rfl⟩
      rw [hd] at hcv ⊢
      clear hd
      go_enter Tryd.func35, Tryd.ntmps35
      go_wp2_with fail
      go_ret
      exact ⟨rfl, (Below.refl _ _).alloc (Nat.le_refl _) _⟩
    · have IH : Hid (∀ W, Calls Tryd.prog 35 #[.int .i64 ((u : Int) / 10)] W fun e w' => e = .returned (.string (str (Lib.decDigits (u / 10)))) ∧ Below W.heap.size W w') := fun W => ih (u / 10) (by omega) (by omega) W
      have HD := Lib.hid (show Lib.decDigits u = Lib.decDigits (u / 10) ++ [UInt8.ofNat (48 + u % 10)] by rw [Lib.decDigits, dif_neg h10])
      have hl := dec_lenB (u / 10) (by omega)
      obtain ⟨s, hs⟩ : ∃ s, Lib.decDigits (u / 10) = s := ⟨_, rfl⟩
      obtain ⟨d, hd⟩ : ∃ d, UInt8.ofNat (48 + u % 10) = d := ⟨_, rfl⟩
      rw [hs] at hl HD IH
      rw [hd] at HD hcv
      have hz : (str s).size ≤ 21 := by rw [size_str]; exact hl
      have hz1 : (str [d]).size = 1 := rfl
      clear ih hs hd hl
      go_enter Tryd.func35, Tryd.ntmps35
      go_wp2_with fail
      refine (IH.out _).mono ?_
      rintro e w1 ⟨rfl, hb1⟩
      have HB1 := Lib.hid (((Below.refl _ _).alloc (Nat.le_refl _) _).trans (hb1.mono (by rw [World.size_alloc]; omega)))
      clear hb1 hcv
      go_wp2_with fail
      go_ret
      refine ⟨?_, HB1.out⟩
      rw [HD.out, ← str_append]
      rfl
theorem dec_itoa (n : Int) (h0 : 0 ≤ n) (h1 : n ≤ 1000000000000000) (w : World) : Calls Tryd.prog 35 #[.int .i64 n] w fun e w' => e = .returned (.string (str (Lib.itoa n))) ∧ Below w.heap.size w w' := by
  obtain ⟨u, rfl⟩ := Int.eq_ofNat_of_zero_le h0
  have := decB_any u (by omega) w
  rw [Lib.itoa, if_neg (by omega), Int.toNat_natCast]
  exact this

end Go.Proofs.YtdbkdneolcgfjaaDoor
