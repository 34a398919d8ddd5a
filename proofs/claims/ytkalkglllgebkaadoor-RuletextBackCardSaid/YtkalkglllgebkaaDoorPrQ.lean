/-
  Plain: what a catalog of products is known by; the text of a catalog.
-/
import Derived.Test.YtkalkglllgebkaaDoorPrP
namespace Saw

/-- What is known of a product whose numbers are checked. -/
structure PrOk (x : Pr) : Prop where
  t1 : 5 ≤ x.thick
  t2 : x.thick ≤ 300
  w1 : x.thick ≤ x.width
  w2 : x.width ≤ 600
  a1 : 0 ≤ x.allow
  a2 : x.allow ≤ 200
  n1 : 0 ≤ x.wane
  n2 : x.wane ≤ 1000
  l1 : 1 ≤ x.lens.length
  l2 : x.lens.length ≤ 8
  lp : x.prices.length = x.lens.length
  ln : ∀ (i : Nat) (m : Int), x.lens[i]? = some m → 100 ≤ m ∧ m ≤ 20000
  lo : ∀ (i : Nat) (m p : Int), x.lens[i]? = some p → x.lens[i + 1]? = some m → p < m
  pr : ∀ p ∈ x.prices, 0 ≤ p ∧ p ≤ 1000000
theorem lens_all {l : List Int} : ∀ (n k : Nat), l.length - k ≤ n → lensFrom l k = 0 → ∀ (i : Nat) (m : Int), k ≤ i → l[i]? = some m → 100 ≤ m ∧ m ≤ 20000 ∧ (0 < i → l.getD (i - 1) 0 < m) := by
  intro n
  induction n with
  | zero => intro k hk _ i t hi ht; have := (List.getElem?_eq_some_iff.1 ht).1; omega
  | succ n ih =>
    intro k hk h i m hi hm
    have hil := (List.getElem?_eq_some_iff.1 hm).1
    have hkx : l[k]? = some l[k] := List.getElem?_eq_getElem (by omega)
    rw [lensFrom_at hkx] at h
    split at h
    · cases h
    · rename_i h1
      split at h
      · cases h
      · rename_i h2
        by_cases hik : i = k
        · subst hik
          rw [hkx] at hm
          injection hm with hm
          subst hm
          refine ⟨by omega, by omega, fun h0 => ?_⟩
          have := (not_and.1 h2) h0
          omega
        · exact ih (k + 1) (by omega) h i m (by omega) hm
theorem prices_all : ∀ {l : List Int}, pricesL l = 0 → ∀ p ∈ l, 0 ≤ p ∧ p ≤ 1000000
  | [], _, _, hp => by cases hp
  | n :: r, h, p, hp => by
    rw [pricesL] at h
    split at h
    · cases h
    · rename_i h1
      rcases List.mem_cons.1 hp with rfl | hp
      · omega
      · exact prices_all h p hp
theorem prOk_of {x : Pr} (h : checkNumP x = 0) : PrOk x := by
  unfold checkNumP at h
  split at h
  · cases h
  · rename_i h1
    split at h
    · cases h
    · rename_i h2
      split at h
      · cases h
      · unfold listsP at h
        split at h
        · cases h
        · rename_i h4
          split at h
          · cases h
          · rename_i h5
            split at h
            · cases h
            · rename_i h6
              split at h
              · rename_i hne; exact absurd h hne
              · rename_i h7
                have hl := lens_all _ 0 (Nat.le_refl _) (Decidable.not_not.1 h7)
                refine ⟨by omega, by omega, by omega, by omega, by omega, by omega, by omega, by omega, by omega, by omega, by omega, fun i m hm => ?_, fun i m p hp hm => ?_, ?_⟩
                · have := hl i m (Nat.zero_le _) hm; omega
                · have := (hl (i + 1) m (Nat.zero_le _) hm).2.2 (by omega)
                  rw [Nat.add_sub_cancel, List.getD_eq_getElem?_getD, hp] at this
                  exact this
                · exact prices_all (by rw [pricesFrom, List.drop_zero] at h; exact h)
theorem checkPrFrom_mem {l : List Pr} : ∀ (n k : Nat), l.length - k ≤ n → checkPrFrom l k = 0 → ∀ (i : Nat) (x : Pr), k ≤ i → l[i]? = some x → isNameP x.name = true ∧ (findPr (l.take i) x.name).isSome = false ∧ checkNumP x = 0 := by
  intro n
  induction n with
  | zero => intro k hk _ i t hi ht; have := (List.getElem?_eq_some_iff.1 ht).1; omega
  | succ n ih =>
    intro k hk h i x hi hx
    have hil := (List.getElem?_eq_some_iff.1 hx).1
    have hkx : l[k]? = some l[k] := List.getElem?_eq_getElem (by omega)
    rw [checkPr_at hkx] at h
    split at h
    · cases h
    · rename_i h1
      split at h
      · cases h
      · rename_i h2
        split at h
        · rename_i h3; exact absurd h h3
        · rename_i h3
          by_cases hik : i = k
          · subst hik
            rw [hkx] at hx
            injection hx with hx
            subst hx
            exact ⟨by simpa using h1, by simpa using h2, by simpa using h3⟩
          · exact ih (k + 1) (by omega) h i x (by omega) hx
theorem checkPr_ok {l : List Pr} (h : checkPr l = 0) : l.length ≤ 16 ∧ ∀ (i : Nat) (x : Pr), l[i]? = some x → isNameP x.name = true ∧ (findPr (l.take i) x.name).isSome = false ∧ checkNumP x = 0 := by
  unfold checkPr at h
  split at h
  · cases h
  · exact ⟨by omega, fun i x hx => checkPrFrom_mem _ 0 (Nat.le_refl _) h i x (Nat.zero_le _) hx⟩
theorem checkPrFrom_of {l : List Pr} : ∀ (n k : Nat), l.length - k ≤ n → (∀ (i : Nat) (x : Pr), l[i]? = some x → isNameP x.name = true ∧ (findPr (l.take i) x.name).isSome = false ∧ checkNumP x = 0) → checkPrFrom l k = 0 := by
  intro n
  induction n with
  | zero => intro k hk _; exact checkPr_end (by omega)
  | succ n ih =>
    intro k hk h
    by_cases hkl : k < l.length
    · have hkx : l[k]? = some l[k] := List.getElem?_eq_getElem hkl
      obtain ⟨h1, h2, h3⟩ := h k _ hkx
      rw [checkPr_at hkx, if_neg (by rw [h1]; decide), if_neg (by rw [h2]; decide), if_neg (by rw [h3]; simp)]
      exact ih (k + 1) (by omega) h
    · exact checkPr_end hkl
theorem checkPr_of {l : List Pr} (h0 : l.length ≤ 16) (h : ∀ (i : Nat) (x : Pr), l[i]? = some x → isNameP x.name = true ∧ (findPr (l.take i) x.name).isSome = false ∧ checkNumP x = 0) : checkPr l = 0 := by
  rw [checkPr, if_neg (by omega)]
  exact checkPrFrom_of _ 0 (Nat.le_refl _) h
theorem checkPr_take {l : List Pr} (h : checkPr l = 0) (k : Nat) : checkPr (l.take k) = 0 := by
  obtain ⟨h1, h2⟩ := checkPr_ok h
  refine checkPr_of (by rw [List.length_take]; omega) (fun i x hx => ?_)
  rw [List.getElem?_take] at hx
  split at hx
  · rename_i hik
    obtain ⟨q1, q2, q3⟩ := h2 i x hx
    rw [List.take_take, Nat.min_eq_left (by omega)]
    exact ⟨q1, q2, q3⟩
  · cases hx

/-! ### Texts -/
/-- A length and its price, with a comma ahead of them unless they are the first. -/
def pairText (k : Nat) (p : Int × Int) : List UInt8 := (if 0 < k then [44] else []) ++ ([32] ++ Go.Lib.itoa p.1 ++ [32, 64, 32] ++ Go.Lib.itoa p.2)
def pairsFrom : Nat → List (Int × Int) → List UInt8
  | _, [] => []
  | k, p :: r => pairText k p ++ pairsFrom (k + 1) r
theorem pairsFrom_app : ∀ (a b : List (Int × Int)) (k : Nat), pairsFrom k (a ++ b) = pairsFrom k a ++ pairsFrom (k + a.length) b
  | [], b, k => by simp [pairsFrom]
  | p :: a, b, k => by rw [List.cons_append, pairsFrom, pairsFrom, pairsFrom_app a b (k + 1), List.append_assoc, List.length_cons, Nat.add_assoc, Nat.add_comm 1]
theorem pairsFrom_snoc {ps : List (Int × Int)} {k : Nat} {p : Int × Int} (h : ps[k]? = some p) : pairsFrom 0 (ps.take (k + 1)) = pairsFrom 0 (ps.take k) ++ pairText k p := by
  have hk := (List.getElem?_eq_some_iff.1 h).1
  rw [List.take_add_one, h, pairsFrom_app, Option.toList_some, pairsFrom, pairsFrom, List.append_nil, List.length_take, Nat.zero_add, Nat.min_eq_left (by omega)]
def prHeadA (x : Pr) : List UInt8 := [112, 114, 111, 100, 117, 99, 116, 32] ++ x.name ++ [32] ++ Go.Lib.itoa x.thick ++ [32, 120, 32] ++ Go.Lib.itoa x.width
def prHeadB (x : Pr) : List UInt8 := [32, 97, 108, 108, 111, 119, 32] ++ Go.Lib.itoa x.allow ++ [32, 119, 97, 110, 101, 32] ++ Go.Lib.itoa x.wane ++ [58]
/-- The text of a product. -/
def prText (x : Pr) : List UInt8 := prHeadA x ++ prHeadB x ++ pairsFrom 0 (x.lens.zip x.prices) ++ [59, 10]
/-- The text of a catalog. -/
def formatPr (l : List Pr) : List UInt8 := if checkPr l = 0 then l.flatMap prText else []

theorem itoa_le (n : Int) (h0 : 0 ≤ n) (h1 : n ≤ 1000000000) : (Go.Lib.itoa n).length ≤ 21 := Go.Lib.itoa_length_le n (by omega) (by omega)
theorem pairText_len (k : Nat) (p : Int × Int) (h1 : 0 ≤ p.1 ∧ p.1 ≤ 20000) (h2 : 0 ≤ p.2 ∧ p.2 ≤ 1000000) : (pairText k p).length ≤ 47 := by
  have e1 := itoa_le p.1 h1.1 (by omega)
  have e2 := itoa_le p.2 h2.1 (by omega)
  have e3 : (if 0 < k then [(44 : UInt8)] else []).length ≤ 1 := by split <;> simp
  simp only [pairText, List.length_append, List.length_cons, List.length_nil]
  omega
theorem pairsFrom_len : ∀ (ps : List (Int × Int)) (k : Nat), (∀ p ∈ ps, (0 ≤ p.1 ∧ p.1 ≤ 20000) ∧ 0 ≤ p.2 ∧ p.2 ≤ 1000000) → (pairsFrom k ps).length ≤ ps.length * 47
  | [], k, _ => by simp [pairsFrom]
  | p :: r, k, h => by
    have i1 := pairsFrom_len r (k + 1) (fun q hq => h q (by simp [hq]))
    have i2 := pairText_len k p (h p (by simp)).1 (h p (by simp)).2
    rw [pairsFrom, List.length_append, List.length_cons]
    omega
theorem zip_ok {x : Pr} (h : PrOk x) : ∀ p ∈ x.lens.zip x.prices, (0 ≤ p.1 ∧ p.1 ≤ 20000) ∧ 0 ≤ p.2 ∧ p.2 ≤ 1000000 := fun p hp => by
  have hz := List.of_mem_zip hp
  obtain ⟨i, hi⟩ := List.mem_iff_getElem?.1 hz.1
  have := h.ln i _ hi
  exact ⟨⟨by omega, by omega⟩, h.pr _ hz.2⟩
theorem zip_length {x : Pr} (h : PrOk x) : (x.lens.zip x.prices).length = x.lens.length := by rw [List.length_zip, h.lp]; omega
theorem prHead_len {x : Pr} (hn : isNameP x.name = true) (h : PrOk x) : (prHeadA x).length ≤ 70 ∧ (prHeadB x).length ≤ 56 := by
  obtain ⟨h1, h2, h3, h4, h5, h6, h7, h8, _⟩ := h
  have := (isNameP_len hn).2
  have e1 := itoa_le x.thick (by omega) (by omega)
  have e2 := itoa_le x.width (by omega) (by omega)
  have e3 := itoa_le x.allow (by omega) (by omega)
  have e4 := itoa_le x.wane (by omega) (by omega)
  simp only [prHeadA, prHeadB, List.length_append, List.length_cons, List.length_nil]
  omega
theorem pairs_len {x : Pr} (h : PrOk x) (k : Nat) : (pairsFrom 0 ((x.lens.zip x.prices).take k)).length ≤ 376 := by
  have := pairsFrom_len ((x.lens.zip x.prices).take k) 0 (fun p hp => zip_ok h p (List.mem_of_mem_take hp))
  have hl := zip_length h
  have h2 := h.l2
  rw [List.length_take] at this
  omega
theorem prText_len {x : Pr} (hn : isNameP x.name = true) (h : PrOk x) : (prText x).length ≤ 504 := by
  have h1 := prHead_len hn h
  have h2 := pairs_len h (x.lens.zip x.prices).length
  rw [List.take_length] at h2
  simp only [prText, List.length_append, List.length_cons, List.length_nil]
  omega
theorem prTexts_len {l : List Pr} (h : ∀ (i : Nat) (x : Pr), l[i]? = some x → isNameP x.name = true ∧ (findPr (l.take i) x.name).isSome = false ∧ checkNumP x = 0) : ∀ k, k ≤ l.length → ((l.take k).flatMap prText).length ≤ k * 504
  | 0, _ => by simp
  | k + 1, hk => by
    have hx : l[k]? = some l[k] := List.getElem?_eq_getElem (by omega)
    obtain ⟨h1, _, h2⟩ := h k _ hx
    have ih := prTexts_len h k (by omega)
    have := prText_len h1 (prOk_of h2)
    rw [List.take_add_one, hx, List.flatMap_append, List.length_append]
    simp only [Option.toList_some, List.flatMap_cons, List.flatMap_nil, List.append_nil]
    omega

end Saw
