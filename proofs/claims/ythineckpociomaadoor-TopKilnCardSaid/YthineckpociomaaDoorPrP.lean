/-
  Plain: products, their checks and sizes.
  Plain: what a catalog of products is known by; the text of a catalog.
  Plain: what is read of products out of lexemes, the reader's place and whether it failed being handed on.
  Plain: the text of a catalog of products is parsed back as the catalog; what is parsed has the lexemes of its text.
  Plain: what is parsed as a catalog has the lexemes of its text; texts joined, texts printed.
-/
import Derived.Test.YthineckpociomaaDoorPlainA
import Derived.Test.YthineckpociomaaDoorPlainC
namespace Saw

/-- A product. -/
structure Pr where
  name : List UInt8
  thick : Int
  width : Int
  allow : Int
  wane : Int
  lens : List Int
  prices : List Int

def Pr.zero : Pr := ⟨[], 0, 0, 0, 0, [], []⟩
theorem Pr.ext_iff' (a b : Pr) : a = b ↔ a.name = b.name ∧ [a.thick, a.width, a.allow, a.wane] = [b.thick, b.width, b.allow, b.wane] ∧ a.lens = b.lens ∧ a.prices = b.prices := by
  cases a; cases b
  simp [and_assoc]
instance : DecidableEq Pr := fun a b => decidable_of_iff _ (Pr.ext_iff' a b).symm

def sizeOkP (n : Int) : Bool := decide (1 ≤ n) && decide (n ≤ 600)
def growP (n a : Int) : Int := (n * (1000 + a) + 999) / 1000
def greenP (x : Pr) : Int × Int :=
  if sizeOkP x.thick && sizeOkP x.width && decide (0 ≤ x.allow) && decide (x.allow ≤ 200) then (growP x.thick x.allow, growP x.width x.allow) else (0, 0)
def volumeP (x : Pr) (n : Int) : Int :=
  if sizeOkP x.thick && sizeOkP x.width && decide (1 ≤ n) && decide (n ≤ 20000) then x.thick * x.width * n else 0

/-- The error of lengths, the rest of them and the one ahead of it given. -/
def lensL : Option Int → List Int → Int
  | _, [] => 0
  | prev, n :: r => if n < 100 ∨ 20000 < n then 9 else if (prev.map fun m => decide (n ≤ m)) = some true then 11 else lensL (some n) r
def lensFrom (l : List Int) (k : Nat) : Int := lensL (if k = 0 then none else l[k - 1]?) (l.drop k)
theorem lensFrom_end {l : List Int} {k : Nat} (h : ¬ k < l.length) : lensFrom l k = 0 := by
  rw [lensFrom, List.drop_eq_nil_of_le (by omega), lensL]
theorem lensFrom_at {l : List Int} {k : Nat} {n : Int} (h : l[k]? = some n) :
    lensFrom l k = if n < 100 ∨ 20000 < n then 9 else if 0 < k ∧ n ≤ l.getD (k - 1) 0 then 11 else lensFrom l (k + 1) := by
  obtain ⟨hk, hn⟩ := List.getElem?_eq_some_iff.1 h
  rw [lensFrom, List.drop_eq_getElem_cons hk, hn, lensL]
  have e : lensFrom l (k + 1) = lensL (some n) (l.drop (k + 1)) := by
    rw [lensFrom, if_neg (by omega), Nat.add_sub_cancel, h]
  rw [e]
  by_cases h0 : k = 0
  · subst h0
    simp
  · have hk1 : k - 1 < l.length := by omega
    simp only [h0, if_false, List.getElem?_eq_getElem hk1, Option.map_some, Option.some.injEq, decide_eq_true_eq, List.getD_eq_getElem?_getD, Option.getD_some, show 0 < k from by omega, true_and]
def pricesL : List Int → Int
  | [] => 0
  | n :: r => if n < 0 ∨ 1000000 < n then 9 else pricesL r
def pricesFrom (l : List Int) (k : Nat) : Int := pricesL (l.drop k)
theorem pricesFrom_end {l : List Int} {k : Nat} (h : ¬ k < l.length) : pricesFrom l k = 0 := by
  rw [pricesFrom, List.drop_eq_nil_of_le (by omega), pricesL]
theorem pricesFrom_at {l : List Int} {k : Nat} {n : Int} (h : l[k]? = some n) : pricesFrom l k = if n < 0 ∨ 1000000 < n then 9 else pricesFrom l (k + 1) := by
  obtain ⟨hk, hn⟩ := List.getElem?_eq_some_iff.1 h
  rw [pricesFrom, List.drop_eq_getElem_cons hk, hn, pricesL]
  rfl
/-- The error of lengths and prices. -/
def listsP (x : Pr) : Int :=
  if x.lens.length = 0 then 3 else if 8 < x.lens.length then 4 else if x.prices.length ≠ x.lens.length then 19
  else if lensFrom x.lens 0 ≠ 0 then lensFrom x.lens 0 else pricesFrom x.prices 0
/-- The error of a product's numbers. -/
def checkNumP (x : Pr) : Int :=
  if x.thick < 5 ∨ 300 < x.thick ∨ x.width < x.thick ∨ 600 < x.width then 9
  else if x.allow < 0 ∨ 200 < x.allow ∨ x.wane < 0 ∨ 1000 < x.wane then 9
  else if 600 < (greenP x).2 then 9
  else listsP x

/-- The index of the first product with a name. -/
def findPr (l : List Pr) (n : List UInt8) : Option Nat := l.findIdx? fun x => x.name == n
def checkPrL (l : List Pr) : List Pr → Nat → Int
  | [], _ => 0
  | x :: r, k => if isNameP x.name = false then 6 else if (findPr (l.take k) x.name).isSome then 7 else if checkNumP x ≠ 0 then checkNumP x else checkPrL l r (k + 1)
def checkPrFrom (l : List Pr) (k : Nat) : Int := checkPrL l (l.drop k) k
theorem checkPr_end {l : List Pr} {k : Nat} (h : ¬ k < l.length) : checkPrFrom l k = 0 := by
  rw [checkPrFrom, List.drop_eq_nil_of_le (by omega), checkPrL]
theorem checkPr_at {l : List Pr} {k : Nat} {x : Pr} (h : l[k]? = some x) :
    checkPrFrom l k = if isNameP x.name = false then 6 else if (findPr (l.take k) x.name).isSome then 7 else if checkNumP x ≠ 0 then checkNumP x else checkPrFrom l (k + 1) := by
  obtain ⟨hk, hn⟩ := List.getElem?_eq_some_iff.1 h
  rw [checkPrFrom, List.drop_eq_getElem_cons hk, hn, checkPrL]
  rfl
def checkPr (l : List Pr) : Int := if 16 < l.length then 4 else checkPrFrom l 0

/-- The price of a length. -/
def priceL : List Int → List Int → Int → Option Int
  | [], _, _ => none
  | n :: r, ps, x => if n = x then ps.head? else priceL r ps.tail x
def priceP (x : Pr) (n : Int) : Option Int := priceL x.lens x.prices n

end Saw

namespace Saw

/-- What is known of a product whose numbers are checked. -/
structure PrOk (x : Pr) : Prop where
  t1 : 5 ≤ x.thick
  t2 : x.thick ≤ 300
  w1 : x.thick ≤ x.width
  w2 : x.width ≤ 600
  a1 : 0 ≤ x.allow
  a2 : x.allow ≤ 200
  n1 : 0 ≤ x.wane
  n2 : x.wane ≤ 1000
  l1 : 1 ≤ x.lens.length
  l2 : x.lens.length ≤ 8
  lp : x.prices.length = x.lens.length
  ln : ∀ (i : Nat) (m : Int), x.lens[i]? = some m → 100 ≤ m ∧ m ≤ 20000
  lo : ∀ (i : Nat) (m p : Int), x.lens[i]? = some p → x.lens[i + 1]? = some m → p < m
  pr : ∀ p ∈ x.prices, 0 ≤ p ∧ p ≤ 1000000
theorem lens_all {l : List Int} : ∀ (n k : Nat), l.length - k ≤ n → lensFrom l k = 0 → ∀ (i : Nat) (m : Int), k ≤ i → l[i]? = some m → 100 ≤ m ∧ m ≤ 20000 ∧ (0 < i → l.getD (i - 1) 0 < m) := by
  intro n
  induction n with
  | zero => intro k hk _ i t hi ht; have := (List.getElem?_eq_some_iff.1 ht).1; omega
  | succ n ih =>
    intro k hk h i m hi hm
    have hil := (List.getElem?_eq_some_iff.1 hm).1
    have hkx : l[k]? = some l[k] := List.getElem?_eq_getElem (by omega)
    rw [lensFrom_at hkx] at h
    split at h
    · cases h
    · rename_i h1
      split at h
      · cases h
      · rename_i h2
        by_cases hik : i = k
        · subst hik
          rw [hkx] at hm
          injection hm with hm
          subst hm
          refine ⟨by omega, by omega, fun h0 => ?_⟩
          have := (not_and.1 h2) h0
          omega
        · exact ih (k + 1) (by omega) h i m (by omega) hm
theorem prices_all : ∀ {l : List Int}, pricesL l = 0 → ∀ p ∈ l, 0 ≤ p ∧ p ≤ 1000000
  | [], _, _, hp => by cases hp
  | n :: r, h, p, hp => by
    rw [pricesL] at h
    split at h
    · cases h
    · rename_i h1
      rcases List.mem_cons.1 hp with rfl | hp
      · omega
      · exact prices_all h p hp
theorem prOk_of {x : Pr} (h : checkNumP x = 0) : PrOk x := by
  unfold checkNumP at h
  split at h
  · cases h
  · rename_i h1
    split at h
    · cases h
    · rename_i h2
      split at h
      · cases h
      · unfold listsP at h
        split at h
        · cases h
        · rename_i h4
          split at h
          · cases h
          · rename_i h5
            split at h
            · cases h
            · rename_i h6
              split at h
              · rename_i hne; exact absurd h hne
              · rename_i h7
                have hl := lens_all _ 0 (Nat.le_refl _) (Decidable.not_not.1 h7)
                refine ⟨by omega, by omega, by omega, by omega, by omega, by omega, by omega, by omega, by omega, by omega, by omega, fun i m hm => ?_, fun i m p hp hm => ?_, ?_⟩
                · have := hl i m (Nat.zero_le _) hm; omega
                · have := (hl (i + 1) m (Nat.zero_le _) hm).2.2 (by omega)
                  rw [Nat.add_sub_cancel, List.getD_eq_getElem?_getD, hp] at this
                  exact this
                · exact prices_all (by rw [pricesFrom, List.drop_zero] at h; exact h)
theorem checkPrFrom_mem {l : List Pr} : ∀ (n k : Nat), l.length - k ≤ n → checkPrFrom l k = 0 → ∀ (i : Nat) (x : Pr), k ≤ i → l[i]? = some x → isNameP x.name = true ∧ (findPr (l.take i) x.name).isSome = false ∧ checkNumP x = 0 := by
  intro n
  induction n with
  | zero => intro k hk _ i t hi ht; have := (List.getElem?_eq_some_iff.1 ht).1; omega
  | succ n ih =>
    intro k hk h i x hi hx
    have hil := (List.getElem?_eq_some_iff.1 hx).1
    have hkx : l[k]? = some l[k] := List.getElem?_eq_getElem (by omega)
    rw [checkPr_at hkx] at h
    split at h
    · cases h
    · rename_i h1
      split at h
      · cases h
      · rename_i h2
        split at h
        · rename_i h3; exact absurd h h3
        · rename_i h3
          by_cases hik : i = k
          · subst hik
            rw [hkx] at hx
            injection hx with hx
            subst hx
            exact ⟨by simpa using h1, by simpa using h2, by simpa using h3⟩
          · exact ih (k + 1) (by omega) h i x (by omega) hx
theorem checkPr_ok {l : List Pr} (h : checkPr l = 0) : l.length ≤ 16 ∧ ∀ (i : Nat) (x : Pr), l[i]? = some x → isNameP x.name = true ∧ (findPr (l.take i) x.name).isSome = false ∧ checkNumP x = 0 := by
  unfold checkPr at h
  split at h
  · cases h
  · exact ⟨by omega, fun i x hx => checkPrFrom_mem _ 0 (Nat.le_refl _) h i x (Nat.zero_le _) hx⟩
theorem checkPrFrom_of {l : List Pr} : ∀ (n k : Nat), l.length - k ≤ n → (∀ (i : Nat) (x : Pr), l[i]? = some x → isNameP x.name = true ∧ (findPr (l.take i) x.name).isSome = false ∧ checkNumP x = 0) → checkPrFrom l k = 0 := by
  intro n
  induction n with
  | zero => intro k hk _; exact checkPr_end (by omega)
  | succ n ih =>
    intro k hk h
    by_cases hkl : k < l.length
    · have hkx : l[k]? = some l[k] := List.getElem?_eq_getElem hkl
      obtain ⟨h1, h2, h3⟩ := h k _ hkx
      rw [checkPr_at hkx, if_neg (by rw [h1]; decide), if_neg (by rw [h2]; decide), if_neg (by rw [h3]; simp)]
      exact ih (k + 1) (by omega) h
    · exact checkPr_end hkl
theorem checkPr_of {l : List Pr} (h0 : l.length ≤ 16) (h : ∀ (i : Nat) (x : Pr), l[i]? = some x → isNameP x.name = true ∧ (findPr (l.take i) x.name).isSome = false ∧ checkNumP x = 0) : checkPr l = 0 := by
  rw [checkPr, if_neg (by omega)]
  exact checkPrFrom_of _ 0 (Nat.le_refl _) h
theorem checkPr_take {l : List Pr} (h : checkPr l = 0) (k : Nat) : checkPr (l.take k) = 0 := by
  obtain ⟨h1, h2⟩ := checkPr_ok h
  refine checkPr_of (by rw [List.length_take]; omega) (fun i x hx => ?_)
  rw [List.getElem?_take] at hx
  split at hx
  · rename_i hik
    obtain ⟨q1, q2, q3⟩ := h2 i x hx
    rw [List.take_take, Nat.min_eq_left (by omega)]
    exact ⟨q1, q2, q3⟩
  · cases hx

/-! ### Texts -/
/-- A length and its price, with a comma ahead of them unless they are the first. -/
def pairText (k : Nat) (p : Int × Int) : List UInt8 := (if 0 < k then [44] else []) ++ ([32] ++ Go.Lib.itoa p.1 ++ [32, 64, 32] ++ Go.Lib.itoa p.2)
def pairsFrom : Nat → List (Int × Int) → List UInt8
  | _, [] => []
  | k, p :: r => pairText k p ++ pairsFrom (k + 1) r
theorem pairsFrom_app : ∀ (a b : List (Int × Int)) (k : Nat), pairsFrom k (a ++ b) = pairsFrom k a ++ pairsFrom (k + a.length) b
  | [], b, k => by simp [pairsFrom]
  | p :: a, b, k => by rw [List.cons_append, pairsFrom, pairsFrom, pairsFrom_app a b (k + 1), List.append_assoc, List.length_cons, Nat.add_assoc, Nat.add_comm 1]
theorem pairsFrom_snoc {ps : List (Int × Int)} {k : Nat} {p : Int × Int} (h : ps[k]? = some p) : pairsFrom 0 (ps.take (k + 1)) = pairsFrom 0 (ps.take k) ++ pairText k p := by
  have hk := (List.getElem?_eq_some_iff.1 h).1
  rw [List.take_add_one, h, pairsFrom_app, Option.toList_some, pairsFrom, pairsFrom, List.append_nil, List.length_take, Nat.zero_add, Nat.min_eq_left (by omega)]
def prHeadA (x : Pr) : List UInt8 := [112, 114, 111, 100, 117, 99, 116, 32] ++ x.name ++ [32] ++ Go.Lib.itoa x.thick ++ [32, 120, 32] ++ Go.Lib.itoa x.width
def prHeadB (x : Pr) : List UInt8 := [32, 97, 108, 108, 111, 119, 32] ++ Go.Lib.itoa x.allow ++ [32, 119, 97, 110, 101, 32] ++ Go.Lib.itoa x.wane ++ [58]
/-- The text of a product. -/
def prText (x : Pr) : List UInt8 := prHeadA x ++ prHeadB x ++ pairsFrom 0 (x.lens.zip x.prices) ++ [59, 10]
/-- The text of a catalog. -/
def formatPr (l : List Pr) : List UInt8 := if checkPr l = 0 then l.flatMap prText else []

theorem itoa_le (n : Int) (h0 : 0 ≤ n) (h1 : n ≤ 1000000000) : (Go.Lib.itoa n).length ≤ 21 := Go.Lib.itoa_length_le n (by omega) (by omega)
theorem pairText_len (k : Nat) (p : Int × Int) (h1 : 0 ≤ p.1 ∧ p.1 ≤ 20000) (h2 : 0 ≤ p.2 ∧ p.2 ≤ 1000000) : (pairText k p).length ≤ 47 := by
  have e1 := itoa_le p.1 h1.1 (by omega)
  have e2 := itoa_le p.2 h2.1 (by omega)
  have e3 : (if 0 < k then [(44 : UInt8)] else []).length ≤ 1 := by split <;> simp
  simp only [pairText, List.length_append, List.length_cons, List.length_nil]
  omega
theorem pairsFrom_len : ∀ (ps : List (Int × Int)) (k : Nat), (∀ p ∈ ps, (0 ≤ p.1 ∧ p.1 ≤ 20000) ∧ 0 ≤ p.2 ∧ p.2 ≤ 1000000) → (pairsFrom k ps).length ≤ ps.length * 47
  | [], k, _ => by simp [pairsFrom]
  | p :: r, k, h => by
    have i1 := pairsFrom_len r (k + 1) (fun q hq => h q (by simp [hq]))
    have i2 := pairText_len k p (h p (by simp)).1 (h p (by simp)).2
    rw [pairsFrom, List.length_append, List.length_cons]
    omega
theorem zip_ok {x : Pr} (h : PrOk x) : ∀ p ∈ x.lens.zip x.prices, (0 ≤ p.1 ∧ p.1 ≤ 20000) ∧ 0 ≤ p.2 ∧ p.2 ≤ 1000000 := fun p hp => by
  have hz := List.of_mem_zip hp
  obtain ⟨i, hi⟩ := List.mem_iff_getElem?.1 hz.1
  have := h.ln i _ hi
  exact ⟨⟨by omega, by omega⟩, h.pr _ hz.2⟩
theorem zip_length {x : Pr} (h : PrOk x) : (x.lens.zip x.prices).length = x.lens.length := by rw [List.length_zip, h.lp]; omega
theorem prHead_len {x : Pr} (hn : isNameP x.name = true) (h : PrOk x) : (prHeadA x).length ≤ 70 ∧ (prHeadB x).length ≤ 56 := by
  obtain ⟨h1, h2, h3, h4, h5, h6, h7, h8, _⟩ := h
  have := (isNameP_len hn).2
  have e1 := itoa_le x.thick (by omega) (by omega)
  have e2 := itoa_le x.width (by omega) (by omega)
  have e3 := itoa_le x.allow (by omega) (by omega)
  have e4 := itoa_le x.wane (by omega) (by omega)
  simp only [prHeadA, prHeadB, List.length_append, List.length_cons, List.length_nil]
  omega
theorem pairs_len {x : Pr} (h : PrOk x) (k : Nat) : (pairsFrom 0 ((x.lens.zip x.prices).take k)).length ≤ 376 := by
  have := pairsFrom_len ((x.lens.zip x.prices).take k) 0 (fun p hp => zip_ok h p (List.mem_of_mem_take hp))
  have hl := zip_length h
  have h2 := h.l2
  rw [List.length_take] at this
  omega
theorem prText_len {x : Pr} (hn : isNameP x.name = true) (h : PrOk x) : (prText x).length ≤ 504 := by
  have h1 := prHead_len hn h
  have h2 := pairs_len h (x.lens.zip x.prices).length
  rw [List.take_length] at h2
  simp only [prText, List.length_append, List.length_cons, List.length_nil]
  omega
theorem prTexts_len {l : List Pr} (h : ∀ (i : Nat) (x : Pr), l[i]? = some x → isNameP x.name = true ∧ (findPr (l.take i) x.name).isSome = false ∧ checkNumP x = 0) : ∀ k, k ≤ l.length → ((l.take k).flatMap prText).length ≤ k * 504
  | 0, _ => by simp
  | k + 1, hk => by
    have hx : l[k]? = some l[k] := List.getElem?_eq_getElem (by omega)
    obtain ⟨h1, _, h2⟩ := h k _ hx
    have ih := prTexts_len h k (by omega)
    have := prText_len h1 (prOk_of h2)
    rw [List.take_add_one, hx, List.flatMap_append, List.length_append]
    simp only [Option.toList_some, List.flatMap_cons, List.flatMap_nil, List.append_nil]
    omega

end Saw

namespace Saw

/-- The lexeme has a kind and, unless this is empty, a text. -/
def lxFits (x : Lx) (p : Int × List UInt8) : Bool := x.kind == p.1 && (p.2 == [] || x.text == p.2)
theorem lxFits_kind {x : Lx} {p : Int × List UInt8} (h : lxFits x p = true) : x.kind = p.1 := by
  rw [lxFits, Bool.and_eq_true, beq_iff_eq] at h
  exact h.1
/-- Does the present lexeme fit? -/
def okS (xs : List Lx) (s : Nat × Bool) (p : Int × List UInt8) : Bool := !s.2 && lxFits (lxAt xs s.1) p
def lexS (xs : List Lx) (s : Nat × Bool) (p : Int × List UInt8) : Lx := if okS xs s p then lxAt xs s.1 else Lx.zero
/-- The reader behind a take. -/
def nextS (xs : List Lx) (s : Nat × Bool) (p : Int × List UInt8) : Nat × Bool := if okS xs s p then (s.1 + 1, false) else (s.1, true)
/-- The reader behind a try. -/
def tryS (xs : List Lx) (s : Nat × Bool) (p : Int × List UInt8) : Nat × Bool := if okS xs s p then (s.1 + 1, false) else s
theorem okS_two {xs : List Lx} {s : Nat × Bool} {p : Int × List UInt8} (h : okS xs s p = true) : s.2 = false ∧ lxFits (lxAt xs s.1) p = true := by
  rw [okS, Bool.and_eq_true] at h
  exact ⟨by simpa using h.1, h.2⟩
theorem tryS_in {xs : List Lx} (he : LxEnds xs) {s : Nat × Bool} {p : Int × List UInt8} (hp : p.1 ≠ 0) (h : s.1 < xs.length) : (tryS xs s p).1 < xs.length := by
  unfold tryS
  split
  · rename_i h1
    exact lxEnds_next he h (by rw [lxFits_kind (okS_two h1).2]; exact hp)
  · exact h
theorem nextS_in {xs : List Lx} (he : LxEnds xs) {s : Nat × Bool} {p : Int × List UInt8} (hp : p.1 ≠ 0) (h : s.1 < xs.length) : (nextS xs s p).1 < xs.length := by
  unfold nextS
  split
  · rename_i h1
    exact lxEnds_next he h (by rw [lxFits_kind (okS_two h1).2]; exact hp)
  · exact h
theorem nextS_ge (xs : List Lx) (s : Nat × Bool) (p : Int × List UInt8) : s.1 ≤ (nextS xs s p).1 := by
  unfold nextS
  split
  · exact Nat.le_succ _
  · exact Nat.le_refl _
theorem nextS_ok {xs : List Lx} {s : Nat × Bool} {p : Int × List UInt8} (h : (nextS xs s p).2 = false) : okS xs s p = true ∧ nextS xs s p = (s.1 + 1, false) ∧ lexS xs s p = lxAt xs s.1 := by
  unfold nextS at h ⊢
  unfold lexS
  split at h
  · rename_i h1
    simp [h1]
  · cases h

def productW : List UInt8 := [112, 114, 111, 100, 117, 99, 116]
def allowW : List UInt8 := [97, 108, 108, 111, 119]
def waneW : List UInt8 := [119, 97, 110, 101]

/-- Lengths and prices: the reader behind one of each. -/
def pairS (xs : List Lx) (s : Nat × Bool) : Nat × Bool := nextS xs (nextS xs (nextS xs s (2, [])) (3, [64])) (2, [])
def pairL (xs : List Lx) (s : Nat × Bool) : Int := (lexS xs s (2, [])).num
def pairP (xs : List Lx) (s : Nat × Bool) : Int := (lexS xs (nextS xs (nextS xs s (2, [])) (3, [64])) (2, [])).num
def pairsS (xs : List Lx) : Nat → Nat × Bool → List Int → List Int → List Int × List Int × (Nat × Bool)
  | 0, s, ls, ps => (ls, ps, s)
  | n + 1, s, ls, ps =>
    if okS xs (pairS xs s) (3, [44]) then pairsS xs n (tryS xs (pairS xs s) (3, [44])) (ls ++ [pairL xs s]) (ps ++ [pairP xs s])
    else (ls ++ [pairL xs s], ps ++ [pairP xs s], pairS xs s)

def hd1 (xs : List Lx) (s : Nat × Bool) : Nat × Bool := nextS xs s (1, productW)
def hd2 (xs : List Lx) (s : Nat × Bool) : Nat × Bool := nextS xs (hd1 xs s) (1, [])
def hd3 (xs : List Lx) (s : Nat × Bool) : Nat × Bool := nextS xs (hd2 xs s) (2, [])
def hd4 (xs : List Lx) (s : Nat × Bool) : Nat × Bool := nextS xs (hd3 xs s) (1, [120])
def hd5 (xs : List Lx) (s : Nat × Bool) : Nat × Bool := nextS xs (hd4 xs s) (2, [])
def hd6 (xs : List Lx) (s : Nat × Bool) : Nat × Bool := nextS xs (hd5 xs s) (1, allowW)
def hd7 (xs : List Lx) (s : Nat × Bool) : Nat × Bool := nextS xs (hd6 xs s) (2, [])
def hd8 (xs : List Lx) (s : Nat × Bool) : Nat × Bool := nextS xs (hd7 xs s) (1, waneW)
def hd9 (xs : List Lx) (s : Nat × Bool) : Nat × Bool := nextS xs (hd8 xs s) (2, [])
def hd10 (xs : List Lx) (s : Nat × Bool) : Nat × Bool := nextS xs (hd9 xs s) (3, [58])
/-- What the code has read of a product, and the reader behind it. -/
def prodS (xs : List Lx) (s : Nat × Bool) : Pr × (Nat × Bool) :=
  (⟨(lexS xs (hd1 xs s) (1, [])).text, (lexS xs (hd2 xs s) (2, [])).num, (lexS xs (hd4 xs s) (2, [])).num, (lexS xs (hd6 xs s) (2, [])).num, (lexS xs (hd8 xs s) (2, [])).num,
    (pairsS xs xs.length (hd10 xs s) [] []).1, (pairsS xs xs.length (hd10 xs s) [] []).2.1⟩, nextS xs (pairsS xs xs.length (hd10 xs s) [] []).2.2 (3, [59]))

/-- All products, with the offsets at which they begin. -/
def prodAll (xs : List Lx) : Nat → Nat × Bool → List Pr → List Int → List Pr × List Int × (Nat × Bool)
  | 0, s, l, os => (l, os, s)
  | n + 1, s, l, os =>
    if s.2 = true ∨ (lxAt xs s.1).kind = 0 then (l, os, s)
    else prodAll xs n (prodS xs s).2 (l ++ [(prodS xs s).1]) (os ++ [(lxAt xs s.1).off])
/-- The first error of the heads of a list, and its offset. -/
def headsErr (l : List Pr) : List Int → Nat → Int × Int
  | [], _ => (0, 0)
  | o :: os, k => if checkPr (l.take (k + 1)) ≠ 0 then (checkPr (l.take (k + 1)), o) else headsErr l os (k + 1)
/-- The catalog that a text describes, or an error and its offset. -/
def parsePr (l : List UInt8) : List Pr × Int × Int :=
  if (scanP l).2.1 ≠ 0 then ([], (scanP l).2.1, (scanP l).2.2)
  else if (prodAll (scanP l).1 (scanP l).1.length (0, false) [] []).2.2.2 = true then ([], 5, (lxAt (scanP l).1 (prodAll (scanP l).1 (scanP l).1.length (0, false) [] []).2.2.1).off)
  else if (headsErr (prodAll (scanP l).1 (scanP l).1.length (0, false) [] []).1 (prodAll (scanP l).1 (scanP l).1.length (0, false) [] []).2.1 0).1 ≠ 0 then
    ([], (headsErr (prodAll (scanP l).1 (scanP l).1.length (0, false) [] []).1 (prodAll (scanP l).1 (scanP l).1.length (0, false) [] []).2.1 0).1, (headsErr (prodAll (scanP l).1 (scanP l).1.length (0, false) [] []).1 (prodAll (scanP l).1 (scanP l).1.length (0, false) [] []).2.1 0).2)
  else ((prodAll (scanP l).1 (scanP l).1.length (0, false) [] []).1, 0, 0)

theorem pairS_in {xs : List Lx} (he : LxEnds xs) {s : Nat × Bool} (h : s.1 < xs.length) : (pairS xs s).1 < xs.length :=
  nextS_in he (p := (2, [])) (by decide) (nextS_in he (p := (3, [64])) (by decide) (nextS_in he (p := (2, [])) (by decide) h))
theorem pairS_ge (xs : List Lx) (s : Nat × Bool) : s.1 ≤ (pairS xs s).1 := Nat.le_trans (nextS_ge _ _ _) (Nat.le_trans (nextS_ge _ _ _) (nextS_ge _ _ _))
theorem pairsS_in {xs : List Lx} (he : LxEnds xs) : ∀ (n : Nat) (s : Nat × Bool) (ls ps : List Int), s.1 < xs.length → (pairsS xs n s ls ps).2.2.1 < xs.length
  | 0, s, ls, ps, h => h
  | n + 1, s, ls, ps, h => by
    rw [pairsS]
    split
    · exact pairsS_in he n _ _ _ (tryS_in he (by decide) (pairS_in he h))
    · exact pairS_in he h
theorem pairsS_ge (xs : List Lx) : ∀ (n : Nat) (s : Nat × Bool) (ls ps : List Int), s.1 ≤ (pairsS xs n s ls ps).2.2.1
  | 0, s, ls, ps => Nat.le_refl _
  | n + 1, s, ls, ps => by
    rw [pairsS]
    split
    · rename_i h1
      refine Nat.le_trans ?_ (pairsS_ge xs n _ _ _)
      rw [tryS, if_pos h1]
      exact Nat.le_succ_of_le (pairS_ge xs s)
    · exact pairS_ge xs s
theorem hd10_in {xs : List Lx} (he : LxEnds xs) {s : Nat × Bool} (h : s.1 < xs.length) : (hd1 xs s).1 < xs.length ∧ (hd2 xs s).1 < xs.length ∧ (hd3 xs s).1 < xs.length ∧ (hd4 xs s).1 < xs.length ∧ (hd5 xs s).1 < xs.length ∧ (hd6 xs s).1 < xs.length ∧ (hd7 xs s).1 < xs.length ∧ (hd8 xs s).1 < xs.length ∧ (hd9 xs s).1 < xs.length ∧ (hd10 xs s).1 < xs.length := by
  have h1 : (hd1 xs s).1 < xs.length := nextS_in he (by decide) h
  have h2 : (hd2 xs s).1 < xs.length := nextS_in he (by decide) h1
  have h3 : (hd3 xs s).1 < xs.length := nextS_in he (by decide) h2
  have h4 : (hd4 xs s).1 < xs.length := nextS_in he (by decide) h3
  have h5 : (hd5 xs s).1 < xs.length := nextS_in he (by decide) h4
  have h6 : (hd6 xs s).1 < xs.length := nextS_in he (by decide) h5
  have h7 : (hd7 xs s).1 < xs.length := nextS_in he (by decide) h6
  have h8 : (hd8 xs s).1 < xs.length := nextS_in he (by decide) h7
  have h9 : (hd9 xs s).1 < xs.length := nextS_in he (by decide) h8
  exact ⟨h1, h2, h3, h4, h5, h6, h7, h8, h9, nextS_in he (by decide) h9⟩
theorem prodS_in {xs : List Lx} (he : LxEnds xs) {s : Nat × Bool} (h : s.1 < xs.length) : (prodS xs s).2.1 < xs.length :=
  nextS_in he (by decide) (pairsS_in he _ _ _ _ (hd10_in he h).2.2.2.2.2.2.2.2.2)
theorem prodS_gt {xs : List Lx} {s : Nat × Bool} (h : (prodS xs s).2.2 = false) : s.1 < (prodS xs s).2.1 := by
  have h1 := (nextS_ok h).2.1
  have h2 : s.1 ≤ (hd10 xs s).1 := by
    unfold hd10 hd9 hd8 hd7 hd6 hd5 hd4 hd3 hd2 hd1
    exact Nat.le_trans (nextS_ge _ _ _) (Nat.le_trans (nextS_ge _ _ _) (Nat.le_trans (nextS_ge _ _ _) (Nat.le_trans (nextS_ge _ _ _) (Nat.le_trans (nextS_ge _ _ _) (Nat.le_trans (nextS_ge _ _ _) (Nat.le_trans (nextS_ge _ _ _) (Nat.le_trans (nextS_ge _ _ _) (Nat.le_trans (nextS_ge _ _ _) (nextS_ge _ _ _)))))))))
  have h3 := pairsS_ge xs xs.length (hd10 xs s) [] []
  have h4 : (prodS xs s).2 = ((pairsS xs xs.length (hd10 xs s) [] []).2.2.1 + 1, false) := h1
  rw [h4]
  show s.1 < _ + 1
  omega

end Saw

namespace Saw

/-! ### Lengths of texts -/
theorem dec_le : ∀ (d u : Nat), 0 < d → u < 10 ^ d → (Go.Lib.decDigits u).length ≤ d
  | 0, _, h, _ => by omega
  | d + 1, u, _, h => by
    by_cases h10 : u < 10
    · rw [Go.Lib.decDigits_one h10]; simp
    · have hd : 0 < d := by
        rcases Nat.eq_zero_or_pos d with rfl | h1
        · simp at h; omega
        · exact h1
      rw [Go.Lib.decDigits, dif_neg h10, List.length_append, List.length_singleton]
      have := dec_le d (u / 10) hd (by rw [Nat.pow_succ] at h; omega)
      omega
theorem itoa7 (n : Int) (h0 : 0 ≤ n) (h1 : n ≤ 1000000) : (Go.Lib.itoa n).length ≤ 7 := by
  obtain ⟨u, rfl⟩ : ∃ u : Nat, n = u := ⟨n.toNat, by omega⟩
  rw [Go.Lib.itoa, if_neg (by omega), Int.toNat_natCast]
  exact dec_le 7 u (by decide) (by simp; omega)
theorem pairsFrom_len7 : ∀ (ps : List (Int × Int)) (k : Nat), (∀ p ∈ ps, (0 ≤ p.1 ∧ p.1 ≤ 20000) ∧ 0 ≤ p.2 ∧ p.2 ≤ 1000000) → (pairsFrom k ps).length ≤ ps.length * 19
  | [], k, _ => by simp [pairsFrom]
  | p :: r, k, h => by
    have i1 := pairsFrom_len7 r (k + 1) (fun q hq => h q (by simp [hq]))
    have hp := h p (by simp)
    have e1 := itoa7 p.1 hp.1.1 (by omega)
    have e2 := itoa7 p.2 hp.2.1 hp.2.2
    have e3 : (if 0 < k then [(44 : UInt8)] else []).length ≤ 1 := by split <;> simp
    rw [pairsFrom, List.length_append, List.length_cons, pairText]
    simp only [List.length_append, List.length_cons, List.length_nil]
    omega
theorem prText_len7 {x : Pr} (hn : isNameP x.name = true) (h : PrOk x) : (prText x).length ≤ 300 := by
  have hz := pairsFrom_len7 (x.lens.zip x.prices) 0 (zip_ok h)
  rw [zip_length h] at hz
  have h2 := h.l2
  obtain ⟨h1, h2', h3, h4, h5, h6, h7, h8, _⟩ := h
  have := (isNameP_len hn).2
  have e1 := itoa7 x.thick (by omega) (by omega)
  have e2 := itoa7 x.width (by omega) (by omega)
  have e3 := itoa7 x.allow (by omega) (by omega)
  have e4 := itoa7 x.wane (by omega) (by omega)
  simp only [prText, prHeadA, prHeadB, List.length_append, List.length_cons, List.length_nil]
  omega
theorem prCheck_mem {l : List Pr} (h : checkPr l = 0) : ∀ x ∈ l, isNameP x.name = true ∧ PrOk x := fun x hx => by
  obtain ⟨i, hi⟩ := List.mem_iff_getElem?.1 hx
  obtain ⟨h1, _, h3⟩ := (checkPr_ok h).2 i x hi
  exact ⟨h1, prOk_of h3⟩
theorem formatPr_len {l : List Pr} (h : checkPr l = 0) : (formatPr l).length ≤ 4800 := by
  have hm := prCheck_mem h
  have h16 := (checkPr_ok h).1
  rw [formatPr, if_pos h]
  have key : ∀ l : List Pr, (∀ x ∈ l, isNameP x.name = true ∧ PrOk x) → (l.flatMap prText).length ≤ 300 * l.length := by
    intro l
    induction l with
    | nil => intro _; simp
    | cons x r ih =>
      intro hx
      have := ih (fun y hy => hx y (by simp [hy]))
      have := prText_len7 (hx x (by simp)).1 (hx x (by simp)).2
      rw [List.flatMap_cons, List.length_append, List.length_cons]
      omega
  have := key l hm
  omega

/-! ### The lexemes of a text -/
def pairToks (k : Nat) (p : Int × Int) : List Lx := (if 0 < k then [mkT [44]] else []) ++ [nuT p.1, mkT [64], nuT p.2]
def pairsToks : Nat → List (Int × Int) → List Lx
  | _, [] => []
  | k, p :: r => pairToks k p ++ pairsToks (k + 1) r
def prToks (x : Pr) : List Lx := [nmT productW, nmT x.name, nuT x.thick, nmT [120], nuT x.width, nmT allowW, nuT x.allow, nmT waneW, nuT x.wane, mkT [58]] ++ pairsToks 0 (x.lens.zip x.prices) ++ [mkT [59]]

theorem name_word {t : List UInt8} (h : isNameP t = true) : isWord t = true := by
  cases t with
  | nil => cases h
  | cons c r =>
    rw [isNameP, Bool.and_eq_true, Bool.and_eq_true] at h
    obtain ⟨⟨h1, h2⟩, h3⟩ := h
    have hs : ∀ c : Int, smallI c = true → letI' c = true := fun c hc => by simp only [smallI, letI', Bool.or_eq_true] at hc ⊢; exact .inl (.inl hc)
    have hn : ∀ c : Int, nameI c = true → partI c = true := fun c hc => by
      simp only [nameI, partI, Bool.or_eq_true] at hc ⊢
      rcases hc with (hc | hc) | hc
      · exact .inl (hs c hc)
      · exact .inr hc
      · refine .inl ?_
        simp only [letI', Bool.or_eq_true]
        exact .inr hc
    rw [isWord, h1, List.headD_cons, hs _ h2, List.all_cons, Bool.true_and, Bool.true_and, Bool.and_eq_true]
    refine ⟨?_, ?_⟩
    · simp only [partI, Bool.or_eq_true]; exact .inl (hs _ h2)
    · rw [List.all_eq_true] at h3 ⊢
      exact fun x hx => hn _ (h3 x hx)
theorem Lexes.pairP {k : Nat} {p : Int × Int} {l : List UInt8} {ts : List Lx} (h1 : 0 ≤ p.1 ∧ p.1 ≤ 20000) (h2 : 0 ≤ p.2 ∧ p.2 ≤ 1000000) (hl : digI (l.headD 32).toNat = false) (h : Lexes l ts) : Lexes (pairText k p ++ l) (pairToks k p ++ ts) ∧ digI ((pairText k p ++ l).headD 32).toNat = false := by
  have hb : Lexes ([32] ++ Go.Lib.itoa p.1 ++ [32, 64, 32] ++ Go.Lib.itoa p.2 ++ l) ([nuT p.1, mkT [64], nuT p.2] ++ ts) := by
    have e : [32] ++ Go.Lib.itoa p.1 ++ [32, 64, 32] ++ Go.Lib.itoa p.2 ++ l = 32 :: (Go.Lib.itoa p.1 ++ (32 :: ([64] ++ (32 :: (Go.Lib.itoa p.2 ++ l))))) := by simp
    rw [e]
    exact Lexes.blank (.inl rfl) (Lexes.num h1.1 (by omega) rfl (Lexes.blank (.inl rfl) (Lexes.mark (m := [64]) (by decide) (fun _ => mark_alone 64 _ (by decide)) (Lexes.blank (.inl rfl) (Lexes.num h2.1 (by omega) hl h)))))
  unfold pairText pairToks
  by_cases hk : 0 < k
  · rw [if_pos hk, if_pos hk]
    refine ⟨?_, rfl⟩
    have e : [44] ++ ([32] ++ Go.Lib.itoa p.1 ++ [32, 64, 32] ++ Go.Lib.itoa p.2) ++ l = [44] ++ ([32] ++ Go.Lib.itoa p.1 ++ [32, 64, 32] ++ Go.Lib.itoa p.2 ++ l) := by simp
    rw [e]
    exact Lexes.mark (m := [44]) (by decide) (fun _ => mark_alone 44 _ (by decide)) hb
  · rw [if_neg hk, if_neg hk]
    exact ⟨by simpa using hb, rfl⟩
theorem Lexes.pairsP {l : List UInt8} {ts : List Lx} (hl : digI (l.headD 32).toNat = false) (h : Lexes l ts) : ∀ (ps : List (Int × Int)) (k : Nat), (∀ p ∈ ps, (0 ≤ p.1 ∧ p.1 ≤ 20000) ∧ 0 ≤ p.2 ∧ p.2 ≤ 1000000) → Lexes (pairsFrom k ps ++ l) (pairsToks k ps ++ ts) ∧ digI ((pairsFrom k ps ++ l).headD 32).toNat = false
  | [], k, _ => ⟨h, hl⟩
  | p :: r, k, hp => by
    obtain ⟨i1, i2⟩ := Lexes.pairsP hl h r (k + 1) (fun q hq => hp q (by simp [hq]))
    have := Lexes.pairP (k := k) (hp p (by simp)).1 (hp p (by simp)).2 i2 i1
    rw [pairsFrom, pairsToks, List.append_assoc, List.append_assoc]
    exact this
theorem Lexes.pr {x : Pr} {l : List UInt8} {ts : List Lx} (h1 : isNameP x.name = true) (h2 : PrOk x) (h : Lexes l ts) : Lexes (prText x ++ l) (prToks x ++ ts) := by
  have hz := zip_ok h2
  obtain ⟨t1, t2, t3, t4, t5, t6, t7, t8, _⟩ := h2
  have hp := (Lexes.pairsP (l := 59 :: 10 :: l) (ts := mkT [59] :: ts) rfl (Lexes.mark (m := [59]) (l := 10 :: l) (by decide) (fun _ => mark_alone 59 _ (by decide)) (Lexes.blank (.inr rfl) h)) (x.lens.zip x.prices) 0 hz).1
  have e : prText x ++ l = productW ++ (32 :: (x.name ++ (32 :: (Go.Lib.itoa x.thick ++ (32 :: ([120] ++ (32 :: (Go.Lib.itoa x.width ++ (32 :: (allowW ++ (32 :: (Go.Lib.itoa x.allow ++ (32 :: (waneW ++ (32 :: (Go.Lib.itoa x.wane ++ ([58] ++ (pairsFrom 0 (x.lens.zip x.prices) ++ 59 :: 10 :: l)))))))))))))))))) := by
    simp [prText, prHeadA, prHeadB, productW, allowW, waneW]
  have e2 : prToks x ++ ts = nmT productW :: nmT x.name :: nuT x.thick :: nmT [120] :: nuT x.width :: nmT allowW :: nuT x.allow :: nmT waneW :: nuT x.wane :: mkT [58] :: (pairsToks 0 (x.lens.zip x.prices) ++ mkT [59] :: ts) := by simp [prToks]
  rw [e, e2]
  refine Lexes.word (by decide) rfl (Lexes.blank (.inl rfl) (Lexes.word (name_word h1) rfl (Lexes.blank (.inl rfl) (Lexes.num (by omega) (by omega) rfl (Lexes.blank (.inl rfl) (Lexes.word (by decide) rfl (Lexes.blank (.inl rfl) (Lexes.num (by omega) (by omega) rfl (Lexes.blank (.inl rfl) (Lexes.word (by decide) rfl (Lexes.blank (.inl rfl) (Lexes.num (by omega) (by omega) rfl (Lexes.blank (.inl rfl) (Lexes.word (by decide) rfl (Lexes.blank (.inl rfl) (Lexes.num (by omega) (by omega) rfl (Lexes.mark (m := [58]) (by decide) (fun _ => mark_alone 58 _ (by decide)) hp)))))))))))))))))
theorem Lexes.prs : ∀ l : List Pr, (∀ x ∈ l, isNameP x.name = true ∧ PrOk x) → Lexes (l.flatMap prText) (l.flatMap prToks)
  | [], _ => Lexes.nil
  | x :: r, h => by
    rw [List.flatMap_cons, List.flatMap_cons]
    exact Lexes.pr (h x (by simp)).1 (h x (by simp)).2 (Lexes.prs r (fun y hy => h y (by simp [hy])))

/-! ### Reading lexemes -/
/-- The lexemes from k on are, but for their offsets, these. -/
def AtK (xs : List Lx) (k : Nat) (ts : List Lx) : Prop := ∃ r, (xs.drop k).map Lx.bare = ts ++ r
theorem AtK.step {xs : List Lx} {k : Nat} {t : Lx} {ts : List Lx} (h : AtK xs k (t :: ts)) : (lxAt xs k).bare = t ∧ k < xs.length ∧ AtK xs (k + 1) ts := by
  obtain ⟨r, hr⟩ := h
  have hk : k < xs.length := by
    rcases Nat.lt_or_ge k xs.length with h1 | h1
    · exact h1
    · rw [List.drop_eq_nil_of_le h1] at hr; cases hr
  rw [drop_lxAt hk, List.map_cons, List.cons_append] at hr
  injection hr with h1 h2
  exact ⟨h1, hk, r, h2⟩
theorem AtK.app {xs : List Lx} {k : Nat} {a b : List Lx} (h : AtK xs k (a ++ b)) : AtK xs k a := by
  obtain ⟨r, hr⟩ := h
  exact ⟨b ++ r, by rw [hr, List.append_assoc]⟩
theorem AtK.skip {xs : List Lx} : ∀ {a b : List Lx} {k : Nat}, AtK xs k (a ++ b) → AtK xs (k + a.length) b
  | [], b, k, h => h
  | t :: a, b, k, h => by
    have := AtK.skip (a := a) h.step.2.2
    rw [List.length_cons, Nat.add_comm a.length 1, ← Nat.add_assoc]
    exact this
theorem fits_bare (x : Lx) (p : Int × List UInt8) : lxFits x.bare p = lxFits x p := rfl
theorem AtK.next {xs : List Lx} {k : Nat} {t : Lx} {ts : List Lx} (h : AtK xs k (t :: ts)) {p : Int × List UInt8} (hf : lxFits t p = true) : nextS xs (k, false) p = (k + 1, false) ∧ (lexS xs (k, false) p).text = t.text ∧ (lexS xs (k, false) p).num = t.num ∧ AtK xs (k + 1) ts := by
  obtain ⟨h1, h2, h3⟩ := h.step
  have hok : okS xs (k, false) p = true := by
    rw [okS]
    simp only [Bool.not_false, Bool.true_and]
    rw [← fits_bare, h1, hf]
  refine ⟨by rw [nextS, if_pos hok], ?_, ?_, h3⟩
  · rw [lexS, if_pos hok, ← h1]; rfl
  · rw [lexS, if_pos hok, ← h1]; rfl
theorem fits_nu (n : Int) : lxFits (nuT n) (2, []) = true := rfl
theorem fits_nm (t : List UInt8) : lxFits (nmT t) (1, []) = true := rfl
theorem fits_nmw (t : List UInt8) : lxFits (nmT t) (1, t) = true := by simp [lxFits, nmT]
theorem fits_mk (t : List UInt8) : lxFits (mkT t) (3, t) = true := by simp [lxFits, mkT]
theorem pairsToks_succ (p : Int × Int) (r : List (Int × Int)) (k : Nat) : pairsToks (k + 1) (p :: r) = mkT [44] :: nuT p.1 :: mkT [64] :: nuT p.2 :: pairsToks (k + 2) r := by
  rw [pairsToks, pairToks, if_pos (by omega)]; rfl
theorem pairs_read {xs : List Lx} : ∀ (r : List (Int × Int)) (p : Int × Int) (j n k : Nat) (ls ps : List Int) (ts : List Lx), r.length < n → AtK xs k (nuT p.1 :: mkT [64] :: nuT p.2 :: (pairsToks (j + 1) r ++ mkT [59] :: ts)) →
    pairsS xs n (k, false) ls ps = (ls ++ p.1 :: r.map (·.1), ps ++ p.2 :: r.map (·.2), (k + 3 + 4 * r.length, false)) ∧ AtK xs (k + 3 + 4 * r.length) (mkT [59] :: ts)
  | r, p, j, 0, k, ls, ps, ts, hn, _ => by omega
  | r, p, j, n + 1, k, ls, ps, ts, hn, h => by
    obtain ⟨a1, _, a3, a4⟩ := h.next (fits_nu p.1)
    obtain ⟨b1, _, _, b4⟩ := a4.next (fits_mk [64])
    obtain ⟨c1, _, c3, c4⟩ := b4.next (fits_nu p.2)
    have hS : pairS xs (k, false) = (k + 3, false) := by rw [pairS, a1, b1, c1]
    have hL : pairL xs (k, false) = p.1 := a3
    have hP : pairP xs (k, false) = p.2 := by rw [pairP, a1, b1]; exact c3
    rw [pairsS, hS, hL, hP]
    cases r with
    | nil =>
      have d := c4.step
      have hno : okS xs (k + 3, false) (3, [44]) = false := by
        rw [okS]
        simp only [Bool.not_false, Bool.true_and]
        rw [← fits_bare, d.1]; rfl
      rw [if_neg (by rw [hno]; decide)]
      exact ⟨by simp, c4⟩
    | cons q r' =>
      rw [pairsToks_succ] at c4
      have d := AtK.step c4
      have hyes : okS xs (k + 3, false) (3, [44]) = true := by
        rw [okS]
        simp only [Bool.not_false, Bool.true_and]
        rw [← fits_bare, d.1]; rfl
      rw [if_pos hyes, tryS, if_pos hyes]
      obtain ⟨i1, i2⟩ := pairs_read r' q (j + 1) n (k + 3 + 1) (ls ++ [p.1]) (ps ++ [p.2]) ts (by simp at hn; omega) d.2.2
      rw [i1]
      have e : k + 3 + 1 + 3 + 4 * r'.length = k + 3 + 4 * (q :: r').length := by simp; omega
      rw [e] at i2 ⊢
      exact ⟨by simp, i2⟩
theorem zip_maps : ∀ (a b : List Int), a.length = b.length → (a.zip b).map (·.1) = a ∧ (a.zip b).map (·.2) = b
  | [], [], _ => ⟨rfl, rfl⟩
  | [], _ :: _, h => by simp at h
  | _ :: _, [], h => by simp at h
  | x :: a, y :: b, h => by
    obtain ⟨h1, h2⟩ := zip_maps a b (by simpa using h)
    simp [h1, h2]
/-- A product whose lengths have their prices. -/
def PrWf (x : Pr) : Prop := x.lens.length = x.prices.length ∧ 1 ≤ x.lens.length
theorem PrOk.wf {x : Pr} (h : PrOk x) : PrWf x := ⟨h.lp.symm, h.l1⟩
theorem pairsToks_length : ∀ (r : List (Int × Int)) (k : Nat), (pairsToks (k + 1) r).length = 4 * r.length
  | [], k => rfl
  | p :: r, k => by rw [pairsToks_succ]; simp [pairsToks_length r (k + 1)]; omega
theorem prod_read {xs : List Lx} {k : Nat} {x : Pr} {ts : List Lx} (hw : PrWf x) (h : AtK xs k (prToks x ++ ts)) : prodS xs (k, false) = (x, (k + (prToks x).length, false)) ∧ AtK xs (k + (prToks x).length) ts := by
  obtain ⟨hw1, hw2⟩ := hw
  have hskip := AtK.skip h
  obtain ⟨p, r, hz⟩ : ∃ p r, x.lens.zip x.prices = p :: r := by
    match hzz : x.lens.zip x.prices with
    | [] => have := congrArg List.length hzz; rw [List.length_zip, hw1, Nat.min_self, List.length_nil] at this; omega
    | p :: r => exact ⟨p, r, rfl⟩
  obtain ⟨m1, m2⟩ := zip_maps x.lens x.prices hw1
  rw [hz] at m1 m2
  have e2 : prToks x ++ ts = nmT productW :: nmT x.name :: nuT x.thick :: nmT [120] :: nuT x.width :: nmT allowW :: nuT x.allow :: nmT waneW :: nuT x.wane :: mkT [58] :: nuT p.1 :: mkT [64] :: nuT p.2 :: (pairsToks (0 + 1) r ++ mkT [59] :: ts) := by
    rw [prToks, hz, pairsToks, pairToks, if_neg (by omega)]; simp
  have hlen : (prToks x).length = 10 + (3 + 4 * r.length) + 1 := by
    have := congrArg List.length e2
    simp only [List.length_append, List.length_cons, pairsToks_length] at this
    omega
  rw [e2] at h
  obtain ⟨q1, _, _, h1⟩ := h.next (fits_nmw productW)
  obtain ⟨q2, x2, _, h2⟩ := h1.next (fits_nm x.name)
  obtain ⟨q3, _, x3, h3⟩ := h2.next (fits_nu x.thick)
  obtain ⟨q4, _, _, h4⟩ := h3.next (fits_nmw [120])
  obtain ⟨q5, _, x5, h5⟩ := h4.next (fits_nu x.width)
  obtain ⟨q6, _, _, h6⟩ := h5.next (fits_nmw allowW)
  obtain ⟨q7, _, x7, h7⟩ := h6.next (fits_nu x.allow)
  obtain ⟨q8, _, _, h8⟩ := h7.next (fits_nmw waneW)
  obtain ⟨q9, _, x9, h9⟩ := h8.next (fits_nu x.wane)
  obtain ⟨q10, _, _, h10⟩ := h9.next (fits_mk [58])
  have f1 : hd1 xs (k, false) = (k + 1, false) := q1
  have f2 : hd2 xs (k, false) = (k + 1 + 1, false) := by rw [hd2, f1, q2]
  have f3 : hd3 xs (k, false) = (k + 1 + 1 + 1, false) := by rw [hd3, f2, q3]
  have f4 : hd4 xs (k, false) = (k + 1 + 1 + 1 + 1, false) := by rw [hd4, f3, q4]
  have f5 : hd5 xs (k, false) = (k + 1 + 1 + 1 + 1 + 1, false) := by rw [hd5, f4, q5]
  have f6 : hd6 xs (k, false) = (k + 1 + 1 + 1 + 1 + 1 + 1, false) := by rw [hd6, f5, q6]
  have f7 : hd7 xs (k, false) = (k + 1 + 1 + 1 + 1 + 1 + 1 + 1, false) := by rw [hd7, f6, q7]
  have f8 : hd8 xs (k, false) = (k + 1 + 1 + 1 + 1 + 1 + 1 + 1 + 1, false) := by rw [hd8, f7, q8]
  have f9 : hd9 xs (k, false) = (k + 1 + 1 + 1 + 1 + 1 + 1 + 1 + 1 + 1, false) := by rw [hd9, f8, q9]
  have f10 : hd10 xs (k, false) = (k + 1 + 1 + 1 + 1 + 1 + 1 + 1 + 1 + 1 + 1, false) := by rw [hd10, f9, q10]
  have hrl : r.length < xs.length := by
    obtain ⟨rr, hrr⟩ := h10
    have := congrArg List.length hrr
    simp only [List.length_map, List.length_drop, List.length_append, List.length_cons, pairsToks_length] at this
    omega
  obtain ⟨i1, i2⟩ := pairs_read r p 0 xs.length _ [] [] ts hrl h10
  obtain ⟨q11, _, _, h11⟩ := i2.next (fits_mk [59])
  have hx : x = ⟨x.name, x.thick, x.width, x.allow, x.wane, p.1 :: r.map (·.1), p.2 :: r.map (·.2)⟩ := by
    rw [List.map_cons] at m1 m2
    rw [m1, m2]
  refine ⟨?_, hskip⟩
  unfold prodS
  rw [f10, i1, f1, f2, f4, f6, f8, x2, x3, x5, x7, x9, List.nil_append, List.nil_append, q11]
  refine Prod.ext hx.symm ?_
  rw [hlen]
  refine Prod.ext ?_ rfl
  dsimp only
  omega
theorem prToks_kind {x : Pr} : ∃ r, prToks x = nmT productW :: r := ⟨_, rfl⟩
/-- All products of a text whose lexemes are those of a list. -/
theorem prods_read {xs : List Lx} {e : Lx} (he : e.kind = 0) : ∀ (rest : List Pr) (n k : Nat) (acc : List Pr) (os : List Int), (∀ x ∈ rest, PrWf x) → AtK xs k (rest.flatMap prToks ++ [e]) → rest.length < n →
    ∃ offs : List Int, offs.length = rest.length ∧ prodAll xs n (k, false) acc os = (acc ++ rest, os ++ offs, (k + (rest.flatMap prToks).length, false))
  | [], n, k, acc, os, _, h, hn => by
    obtain ⟨n', rfl⟩ : ∃ n', n = n' + 1 := ⟨n - 1, by simp at hn; omega⟩
    have h1 : (lxAt xs k).kind = 0 := by rw [← he, ← (AtK.step h).1]; rfl
    exact ⟨[], rfl, by rw [prodAll, if_pos (.inr h1)]; simp⟩
  | x :: rest, n, k, acc, os, hw, h, hn => by
    obtain ⟨n', rfl⟩ : ∃ n', n = n' + 1 := ⟨n - 1, by simp at hn; omega⟩
    rw [List.flatMap_cons, List.append_assoc] at h
    obtain ⟨i1, i2⟩ := prod_read (hw x (by simp)) h
    obtain ⟨r, hr⟩ := prToks_kind (x := x)
    have h1 : (lxAt xs k).kind = 1 := by
      rw [hr, List.cons_append] at h
      have := congrArg Lx.kind (AtK.step h).1
      exact this
    obtain ⟨offs, o1, o2⟩ := prods_read he rest n' _ (acc ++ [x]) (os ++ [(lxAt xs k).off]) (fun y hy => hw y (by simp [hy])) i2 (by simp at hn; omega)
    refine ⟨(lxAt xs k).off :: offs, by simp [o1], ?_⟩
    rw [prodAll, if_neg (by simp [h1]), i1, o2]
    simp [Nat.add_assoc]
theorem heads_ok {l : List Pr} (h : checkPr l = 0) : ∀ (os : List Int) (k : Nat), headsErr l os k = (0, 0)
  | [], _ => rfl
  | o :: os, k => by rw [headsErr, if_neg (by simp [checkPr_take h]), heads_ok h os (k + 1)]
theorem heads_bad {l : List Pr} (h : checkPr l ≠ 0) : ∀ (os : List Int) (k : Nat), os ≠ [] → k + os.length = l.length → (headsErr l os k).1 ≠ 0
  | [], _, h0, _ => absurd rfl h0
  | [o], k, _, hk => by
    have : l.take (k + 1) = l := List.take_of_length_le (by simp at hk; omega)
    rw [headsErr, this, if_pos h]
    exact h
  | o :: o2 :: os, k, _, hk => by
    rw [headsErr]
    split
    · rename_i h1; exact h1
    · exact heads_bad h (o2 :: os) (k + 1) (by simp) (by simp at hk ⊢; omega)
theorem prToks_ge (x : Pr) : 1 ≤ (prToks x).length := by simp [prToks]
theorem flat_ge : ∀ l : List Pr, l.length ≤ (l.flatMap prToks).length
  | [] => by simp
  | x :: r => by
    have := flat_ge r
    have := prToks_ge x
    rw [List.flatMap_cons, List.length_append, List.length_cons]
    omega
/-- A text whose lexemes are those of a list. -/
theorem parse_toks {s : List UInt8} {xs : List Lx} {e : Lx} {l : List Pr} (hsc : scanP s = (xs, 0, 0)) (he : e.kind = 0) (hx : xs.map Lx.bare = l.flatMap prToks ++ [e]) (hw : ∀ x ∈ l, PrWf x) :
    (checkPr l = 0 → parsePr s = (l, 0, 0)) ∧ (checkPr l ≠ 0 → ∃ er a, er ≠ 0 ∧ parsePr s = ([], er, a)) := by
  have hlen : l.length < xs.length := by
    have := congrArg List.length hx
    rw [List.length_map, List.length_append, List.length_singleton] at this
    have := flat_ge l
    omega
  obtain ⟨offs, o1, o2⟩ := prods_read (xs := xs) he l xs.length 0 [] [] hw ⟨[], by rw [List.drop_zero, hx]; simp⟩ hlen
  rw [List.nil_append, List.nil_append] at o2
  unfold parsePr
  rw [hsc]
  simp only [ne_eq, not_true_eq_false, if_false, o2, Bool.false_eq_true]
  refine ⟨fun hc => ?_, fun hc => ?_⟩
  · rw [heads_ok hc]; simp
  · have hne : offs ≠ [] := by
      intro h0
      rw [h0] at o1
      have : l = [] := List.length_eq_zero_iff.1 o1.symm
      rw [this] at hc
      exact hc rfl
    have hb := heads_bad hc offs 0 hne (by omega)
    rw [if_pos hb]
    exact ⟨_, _, hb, rfl⟩
/-- The text of a catalog is parsed back as the catalog. -/
theorem parsePr_format {l : List Pr} (h : checkPr l = 0) : parsePr (formatPr l) = (l, 0, 0) := by
  have hlen := formatPr_len h
  have hx := Lexes.prs l (prCheck_mem h)
  have hf : formatPr l = l.flatMap prText := by rw [formatPr, if_pos h]
  rw [← hf] at hx
  obtain ⟨ys, h1, h2, h3⟩ := hx 0
  have hsc : scanP (formatPr l) = (ys ++ [lxEnd (0 + (formatPr l).length)], 0, 0) := by rw [scanP_eq _ (by omega), h1]
  refine (parse_toks (e := (lxEnd (0 + (formatPr l).length)).bare) hsc rfl ?_ (fun x hx => ((prCheck_mem h) x hx).2.wf)).1 h
  rw [List.map_append, h2]; rfl

end Saw

namespace Saw

def CanonP (xs : List Lx) : Prop := ∀ x ∈ xs, x.kind ≠ 0 → lexOK x
theorem CanonP.at_ {xs : List Lx} (h : CanonP xs) {k : Nat} (hk : (lxAt xs k).kind ≠ 0) : lexOK (lxAt xs k) := h _ (List.mem_of_getElem? (lxAt_some (lxAt_lt hk))) hk
theorem bareP_name {x : Lx} (h : lexOK x) (h1 : x.kind = 1) : x.bare = nmT x.text := by
  rcases lexOK_canon h with ⟨_, h3⟩ | ⟨h3, _⟩ | ⟨h3, _⟩
  · cases x; simp only at h1 h3; subst h1 h3; rfl
  · rw [h1] at h3; cases h3
  · rw [h1] at h3; cases h3
theorem bareP_num {x : Lx} (h : lexOK x) (h1 : x.kind = 2) : x.bare = nuT x.num := by
  rcases lexOK_canon h with ⟨h3, _⟩ | ⟨_, h3, _⟩ | ⟨h3, _⟩
  · rw [h1] at h3; cases h3
  · cases x; simp only at h1 h3; subst h1 h3; rfl
  · rw [h1] at h3; cases h3
theorem bareP_mark {x : Lx} (h : lexOK x) (h1 : x.kind = 3) : x.bare = mkT x.text := by
  rcases lexOK_canon h with ⟨h3, _⟩ | ⟨h3, _⟩ | ⟨_, h3⟩
  · rw [h1] at h3; cases h3
  · rw [h1] at h3; cases h3
  · cases x; simp only at h1 h3; subst h1 h3; rfl
/-- From k to k' the lexemes are, but for their offsets, these. -/
def Took (xs : List Lx) (k k' : Nat) (ts : List Lx) : Prop := (xs.drop k).map Lx.bare = ts ++ (xs.drop k').map Lx.bare
theorem Took.trans {xs : List Lx} {k k' k'' : Nat} {a b : List Lx} (h : Took xs k k' a) (h' : Took xs k' k'' b) : Took xs k k'' (a ++ b) := by
  unfold Took at *
  rw [h, h', List.append_assoc]
theorem Took.one {xs : List Lx} {k : Nat} {t : Lx} (hk : k < xs.length) (h : (lxAt xs k).bare = t) : Took xs k (k + 1) [t] := by
  unfold Took
  rw [drop_lxAt hk, List.map_cons, h]; rfl
/-- A step that is taken. -/
theorem took_step {xs : List Lx} (hc : CanonP xs) {s : Nat × Bool} {p : Int × List UInt8} (hp : p.1 = 1 ∨ p.1 = 2 ∨ p.1 = 3) (h : (nextS xs s p).2 = false) :
    s.2 = false ∧ nextS xs s p = (s.1 + 1, false) ∧ s.1 < xs.length ∧ Took xs s.1 (s.1 + 1) [if p.1 = 1 then nmT (lexS xs s p).text else if p.1 = 2 then nuT (lexS xs s p).num else mkT (lexS xs s p).text] ∧ (p.2 = [] ∨ (lexS xs s p).text = p.2) := by
  obtain ⟨h1, h2, h3⟩ := nextS_ok h
  obtain ⟨h4, h5⟩ := okS_two h1
  have hk := lxFits_kind h5
  have hne : (lxAt xs s.1).kind ≠ 0 := by rw [hk]; omega
  have hlt := lxAt_lt hne
  have hok := hc.at_ hne
  refine ⟨h4, h2, hlt, Took.one hlt ?_, ?_⟩
  · rw [h3]
    rcases hp with hp | hp | hp
    · rw [if_pos hp]; exact bareP_name hok (by rw [hk, hp])
    · rw [if_neg (by omega), if_pos hp]; exact bareP_num hok (by rw [hk, hp])
    · rw [if_neg (by omega), if_neg (by omega)]; exact bareP_mark hok (by rw [hk, hp])
  · rw [h3]
    rw [lxFits, Bool.and_eq_true, Bool.or_eq_true, beq_iff_eq, beq_iff_eq, beq_iff_eq] at h5
    exact h5.2
theorem took_word {xs : List Lx} (hc : CanonP xs) {s : Nat × Bool} {t : List UInt8} (ht : t ≠ []) (h : (nextS xs s (1, t)).2 = false) : s.2 = false ∧ nextS xs s (1, t) = (s.1 + 1, false) ∧ s.1 < xs.length ∧ Took xs s.1 (s.1 + 1) [nmT t] := by
  obtain ⟨h1, h2, h3, h4, h5⟩ := took_step hc (.inl rfl) h
  rcases h5 with h5 | h5
  · exact absurd h5 ht
  · rw [if_pos rfl, h5] at h4
    exact ⟨h1, h2, h3, h4⟩
theorem took_name {xs : List Lx} (hc : CanonP xs) {s : Nat × Bool} (h : (nextS xs s (1, [])).2 = false) : s.2 = false ∧ nextS xs s (1, []) = (s.1 + 1, false) ∧ s.1 < xs.length ∧ Took xs s.1 (s.1 + 1) [nmT (lexS xs s (1, [])).text] := by
  obtain ⟨h1, h2, h3, h4, _⟩ := took_step hc (.inl rfl) h
  rw [if_pos rfl] at h4
  exact ⟨h1, h2, h3, h4⟩
theorem took_num {xs : List Lx} (hc : CanonP xs) {s : Nat × Bool} (h : (nextS xs s (2, [])).2 = false) : s.2 = false ∧ nextS xs s (2, []) = (s.1 + 1, false) ∧ s.1 < xs.length ∧ Took xs s.1 (s.1 + 1) [nuT (lexS xs s (2, [])).num] := by
  obtain ⟨h1, h2, h3, h4, _⟩ := took_step hc (.inr (.inl rfl)) h
  rw [if_neg (by decide), if_pos rfl] at h4
  exact ⟨h1, h2, h3, h4⟩
theorem took_mark {xs : List Lx} (hc : CanonP xs) {s : Nat × Bool} {t : List UInt8} (ht : t ≠ []) (h : (nextS xs s (3, t)).2 = false) : s.2 = false ∧ nextS xs s (3, t) = (s.1 + 1, false) ∧ s.1 < xs.length ∧ Took xs s.1 (s.1 + 1) [mkT t] := by
  obtain ⟨h1, h2, h3, h4, h5⟩ := took_step hc (.inr (.inr rfl)) h
  rcases h5 with h5 | h5
  · exact absurd h5 ht
  · rw [if_neg (show ¬ (3 : Int) = 1 by decide), if_neg (show ¬ (3 : Int) = 2 by decide), h5] at h4
    exact ⟨h1, h2, h3, h4⟩
theorem next_of_ok {xs : List Lx} {s : Nat × Bool} {p : Int × List UInt8} (h : okS xs s p = true) : nextS xs s p = (s.1 + 1, false) ∧ tryS xs s p = (s.1 + 1, false) := ⟨by rw [nextS, if_pos h], by rw [tryS, if_pos h]⟩
theorem pair_inv {xs : List Lx} (hc : CanonP xs) {s : Nat × Bool} (h : (pairS xs s).2 = false) : s.2 = false ∧ pairS xs s = (s.1 + 3, false) ∧ s.1 + 2 < xs.length ∧ Took xs s.1 (s.1 + 3) [nuT (pairL xs s), mkT [64], nuT (pairP xs s)] := by
  have h3 := took_num hc h
  have h2 := took_mark hc (by decide) h3.1
  have h1 := took_num hc h2.1
  have e1 : nextS xs s (2, []) = (s.1 + 1, false) := h1.2.1
  have e2 : nextS xs (nextS xs s (2, [])) (3, [64]) = (s.1 + 2, false) := by rw [h2.2.1, e1]
  have e3 : pairS xs s = (s.1 + 3, false) := by
    have := h3.2.1
    rw [e2] at this
    rw [pairS, e2]; exact this
  have l3 := h3.2.2.1
  rw [e2] at l3
  have t2 := h2.2.2.2
  rw [e1] at t2
  have t3 := h3.2.2.2
  rw [e2] at t3
  refine ⟨h1.1, e3, l3, ?_⟩
  have hp : pairP xs s = (lexS xs (s.1 + 2, false) (2, [])).num := by rw [pairP, e2]
  rw [hp]
  exact (h1.2.2.2.trans t2).trans t3
theorem pairs_inv {xs : List Lx} (hc : CanonP xs) (hend : LxEnds xs) : ∀ (n j : Nat) (s : Nat × Bool) (ls ps : List Int), s.1 < xs.length → xs.length - s.1 ≤ n → (pairsS xs n s ls ps).2.2.2 = false →
    s.2 = false ∧ ∃ (p : Int × Int) (r : List (Int × Int)), (pairsS xs n s ls ps).1 = ls ++ p.1 :: r.map (·.1) ∧ (pairsS xs n s ls ps).2.1 = ps ++ p.2 :: r.map (·.2) ∧ Took xs s.1 (pairsS xs n s ls ps).2.2.1 (nuT p.1 :: mkT [64] :: nuT p.2 :: pairsToks (j + 1) r)
  | 0, j, s, ls, ps, hs, hn, _ => by omega
  | n + 1, j, s, ls, ps, hs, hn, h => by
    rw [pairsS] at h ⊢
    by_cases hok : okS xs (pairS xs s) (3, [44]) = true
    · rw [if_pos hok] at h ⊢
      have hp := pair_inv hc (okS_two hok).1
      have hnx := next_of_ok hok
      have hm := took_mark hc (t := [44]) (by decide) (s := pairS xs s) (by rw [hnx.1])
      rw [hnx.2] at h ⊢
      rw [hp.2.1] at h ⊢ hm
      have hk4 : s.1 + 3 + 1 < xs.length := by
        have h5 := (okS_two hok).2
        rw [hp.2.1] at h5
        exact lxEnds_next hend hm.2.2.1 (by rw [lxFits_kind h5]; decide)
      obtain ⟨_, p, r, i1, i2, i3⟩ := pairs_inv hc hend n (j + 1) (s.1 + 3 + 1, false) (ls ++ [pairL xs s]) (ps ++ [pairP xs s]) hk4 (by simp only; omega) h
      refine ⟨hp.1, (pairL xs s, pairP xs s), p :: r, by rw [i1]; simp, by rw [i2]; simp, ?_⟩
      rw [pairsToks_succ]
      have := (hp.2.2.2.trans hm.2.2.2).trans i3
      simpa using this
    · rw [if_neg hok] at h ⊢
      have hp := pair_inv hc h
      refine ⟨hp.1, (pairL xs s, pairP xs s), [], by simp, by simp, ?_⟩
      have := hp.2.2.2
      simp only
      rw [hp.2.1]
      exact this
theorem prod_inv {xs : List Lx} (hc : CanonP xs) (hend : LxEnds xs) {s : Nat × Bool} (hs : s.1 < xs.length) (h : (prodS xs s).2.2 = false) : s.2 = false ∧ PrWf (prodS xs s).1 ∧ Took xs s.1 (prodS xs s).2.1 (prToks (prodS xs s).1) := by
  have hin := (hd10_in hend hs).2.2.2.2.2.2.2.2.2
  have h11 := took_mark hc (t := [59]) (by decide) h
  obtain ⟨h10', p, r, i1, i2, i3⟩ := pairs_inv hc hend xs.length 0 (hd10 xs s) [] [] hin (by omega) h11.1
  have h10 := took_mark hc (t := [58]) (by decide) (s := hd9 xs s) h10'
  have h9 := took_num hc (s := hd8 xs s) h10.1
  have h8 := took_word hc (t := waneW) (by decide) (s := hd7 xs s) h9.1
  have h7 := took_num hc (s := hd6 xs s) h8.1
  have h6 := took_word hc (t := allowW) (by decide) (s := hd5 xs s) h7.1
  have h5 := took_num hc (s := hd4 xs s) h6.1
  have h4 := took_word hc (t := [120]) (by decide) (s := hd3 xs s) h5.1
  have h3 := took_num hc (s := hd2 xs s) h4.1
  have h2 := took_name hc (s := hd1 xs s) h3.1
  have h1 := took_word hc (t := productW) (by decide) (s := s) h2.1
  have e1 : (hd1 xs s).1 = s.1 + 1 := by rw [hd1, h1.2.1]
  have e2 : (hd2 xs s).1 = s.1 + 1 + 1 := by rw [hd2, h2.2.1, e1]
  have e3 : (hd3 xs s).1 = s.1 + 1 + 1 + 1 := by rw [hd3, h3.2.1, e2]
  have e4 : (hd4 xs s).1 = s.1 + 1 + 1 + 1 + 1 := by rw [hd4, h4.2.1, e3]
  have e5 : (hd5 xs s).1 = s.1 + 1 + 1 + 1 + 1 + 1 := by rw [hd5, h5.2.1, e4]
  have e6 : (hd6 xs s).1 = s.1 + 1 + 1 + 1 + 1 + 1 + 1 := by rw [hd6, h6.2.1, e5]
  have e7 : (hd7 xs s).1 = s.1 + 1 + 1 + 1 + 1 + 1 + 1 + 1 := by rw [hd7, h7.2.1, e6]
  have e8 : (hd8 xs s).1 = s.1 + 1 + 1 + 1 + 1 + 1 + 1 + 1 + 1 := by rw [hd8, h8.2.1, e7]
  have e9 : (hd9 xs s).1 = s.1 + 1 + 1 + 1 + 1 + 1 + 1 + 1 + 1 + 1 := by rw [hd9, h9.2.1, e8]
  have e10 : (hd10 xs s).1 = s.1 + 1 + 1 + 1 + 1 + 1 + 1 + 1 + 1 + 1 + 1 := by rw [hd10, h10.2.1, e9]
  have t1 := h1.2.2.2
  have t2 := h2.2.2.2
  have t3 := h3.2.2.2
  have t4 := h4.2.2.2
  have t5 := h5.2.2.2
  have t6 := h6.2.2.2
  have t7 := h7.2.2.2
  have t8 := h8.2.2.2
  have t9 := h9.2.2.2
  have t10 := h10.2.2.2
  have t11 := h11.2.2.2
  rw [e1] at t2
  rw [e2] at t3
  rw [e3] at t4
  rw [e4] at t5
  rw [e5] at t6
  rw [e6] at t7
  rw [e7] at t8
  rw [e8] at t9
  rw [e9] at t10
  rw [e10] at i3
  have hfin := (((((((((((t1.trans t2).trans t3).trans t4).trans t5).trans t6).trans t7).trans t8).trans t9).trans t10).trans i3).trans t11)
  have hl : (prodS xs s).1.lens = p.1 :: r.map (·.1) := by rw [prodS]; simpa using i1
  have hp : (prodS xs s).1.prices = p.2 :: r.map (·.2) := by rw [prodS]; simpa using i2
  have hzip : ∀ r : List (Int × Int), (r.map (·.1)).zip (r.map (·.2)) = r := by
    intro r
    induction r with
    | nil => rfl
    | cons q r ih => rw [List.map_cons, List.map_cons, List.zip_cons_cons, ih]
  refine ⟨h1.1, ⟨by rw [hl, hp]; simp, by rw [hl]; simp⟩, ?_⟩
  have hk : (prodS xs s).2.1 = (pairsS xs xs.length (hd10 xs s) [] []).2.2.1 + 1 := by
    have : (prodS xs s).2 = ((pairsS xs xs.length (hd10 xs s) [] []).2.2.1 + 1, false) := h11.2.1
    rw [this]
  rw [hk]
  have htk : prToks (prodS xs s).1 = [nmT productW, nmT (lexS xs (hd1 xs s) (1, [])).text, nuT (lexS xs (hd2 xs s) (2, [])).num, nmT [120], nuT (lexS xs (hd4 xs s) (2, [])).num, nmT allowW, nuT (lexS xs (hd6 xs s) (2, [])).num, nmT waneW, nuT (lexS xs (hd8 xs s) (2, [])).num, mkT [58]] ++ (nuT p.1 :: mkT [64] :: nuT p.2 :: pairsToks (0 + 1) r) ++ [mkT [59]] := by
    rw [prToks, hl, hp, List.zip_cons_cons, hzip, pairsToks, pairToks, if_neg (by omega)]
    simp [prodS]
  rw [htk]
  simpa [Took, List.append_assoc] using hfin
theorem prods_inv {ys : List Lx} {pe : Int} (hk : ∀ y ∈ ys, y.kind ≠ 0) (hc : CanonP (ys ++ [lxEnd pe])) (hend : LxEnds (ys ++ [lxEnd pe])) : ∀ (n : Nat) (s : Nat × Bool) (acc : List Pr) (os : List Int), (ys ++ [lxEnd pe]).length - s.1 ≤ n → s.1 < (ys ++ [lxEnd pe]).length → (prodAll (ys ++ [lxEnd pe]) n s acc os).2.2.2 = false → os.length = acc.length →
    ∃ rest, (prodAll (ys ++ [lxEnd pe]) n s acc os).1 = acc ++ rest ∧ (prodAll (ys ++ [lxEnd pe]) n s acc os).2.1.length = (acc ++ rest).length ∧ (∀ x ∈ rest, PrWf x) ∧ ((ys ++ [lxEnd pe]).drop s.1).map Lx.bare = rest.flatMap prToks ++ [(lxEnd 0).bare]
  | 0, s, acc, os, hn, hs, _, _ => by omega
  | n + 1, s, acc, os, hn, hs, h, hol => by
    rw [prodAll] at h ⊢
    by_cases h0 : s.2 = true ∨ (lxAt (ys ++ [lxEnd pe]) s.1).kind = 0
    · rw [if_pos h0] at h ⊢
      refine ⟨[], by simp, by simpa using hol, by simp, ?_⟩
      have hk0 : (lxAt (ys ++ [lxEnd pe]) s.1).kind = 0 := by
        rcases h0 with h1 | h1
        · rw [h1] at h; cases h
        · exact h1
      have hky : s.1 = ys.length := by
        rw [List.length_append, List.length_singleton] at hs
        by_cases hlt : s.1 < ys.length
        · rw [lxAt, List.getElem?_append_left hlt, List.getElem?_eq_getElem hlt] at hk0
          exact absurd hk0 (hk _ (List.getElem_mem hlt))
        · omega
      rw [hky, List.drop_left]
      rfl
    · rw [if_neg h0] at h ⊢
      cases hf : (prodS (ys ++ [lxEnd pe]) s).2.2 with
      | true =>
        have hst : prodAll (ys ++ [lxEnd pe]) n (prodS (ys ++ [lxEnd pe]) s).2 (acc ++ [(prodS (ys ++ [lxEnd pe]) s).1]) (os ++ [(lxAt (ys ++ [lxEnd pe]) s.1).off]) = (acc ++ [(prodS (ys ++ [lxEnd pe]) s).1], os ++ [(lxAt (ys ++ [lxEnd pe]) s.1).off], (prodS (ys ++ [lxEnd pe]) s).2) := by
          cases n with
          | zero => rfl
          | succ n => rw [prodAll, if_pos (.inl hf)]
        rw [hst] at h
        simp only at h
        rw [hf] at h
        cases h
      | false =>
        obtain ⟨_, hw, ht⟩ := prod_inv hc hend hs hf
        have hin := prodS_in hend hs
        have hgt := prodS_gt hf
        obtain ⟨rest, r1, r2, r3, r4⟩ := prods_inv hk hc hend n (prodS (ys ++ [lxEnd pe]) s).2 (acc ++ [(prodS (ys ++ [lxEnd pe]) s).1]) (os ++ [(lxAt (ys ++ [lxEnd pe]) s.1).off]) (by omega) hin h (by simp [hol])
        refine ⟨(prodS (ys ++ [lxEnd pe]) s).1 :: rest, by rw [r1]; simp, by rw [r2]; simp, ?_, ?_⟩
        · intro x hx
          rcases List.mem_cons.1 hx with rfl | hx
          · exact hw
          · exact r3 x hx
        · rw [ht, r4, List.flatMap_cons, List.append_assoc]
theorem heads_zero {l : List Pr} : ∀ (os : List Int) (k : Nat), (headsErr l os k).1 = 0 → headsErr l os k = (0, 0) ∧ ∀ j, j < os.length → checkPr (l.take (k + j + 1)) = 0
  | [], k, _ => ⟨rfl, nofun⟩
  | o :: os, k, h => by
    rw [headsErr] at h ⊢
    split at h
    · rename_i h1; exact absurd h h1
    · rename_i h1
      obtain ⟨i1, i2⟩ := heads_zero os (k + 1) h
      rw [if_neg h1]
      refine ⟨i1, fun j hj => ?_⟩
      cases j with
      | zero => simpa using h1
      | succ j =>
        have := i2 j (by simpa using hj)
        rwa [show k + 1 + j + 1 = k + (j + 1) + 1 by omega] at this
theorem scanP_can {s : List UInt8} {xs : List Lx} (h : scanP s = (xs, 0, 0)) : ∃ ys, xs = ys ++ [lxEnd s.length] ∧ (∀ y ∈ ys, y.kind ≠ 0) ∧ (∀ y ∈ ys, lexOK y) ∧ s.length ≤ 8000 := by
  obtain ⟨h1, _, ⟨ys, h2, h3⟩, _, _⟩ := scanP_good s (by rw [h])
  rw [h] at h2
  simp only at h2
  refine ⟨ys, h2, h3, ?_, h1⟩
  rw [scanP_eq s h1] at h
  obtain ⟨zs, hz1, hz2, _⟩ := scanS_lexOK _ s 0 (Nat.le_refl _) (by rw [h])
  rw [h] at hz1
  simp only at hz1
  rw [h2] at hz1
  have := congrArg List.dropLast hz1
  rw [List.dropLast_concat, List.dropLast_concat] at this
  rw [this]
  exact hz2
theorem canonP_of {ys : List Lx} {pe : Int} (h : ∀ y ∈ ys, lexOK y) : CanonP (ys ++ [lxEnd pe]) := fun x hx hk => by
  rcases List.mem_append.1 hx with hx | hx
  · exact h x hx
  · rw [List.mem_singleton.1 hx] at hk; exact absurd rfl hk
theorem endsP {ys : List Lx} {p : Int} (_h : ∀ x ∈ ys, x.kind ≠ 0) : LxEnds (ys ++ [lxEnd p]) := by
  intro i x hx hk
  have hi := (List.getElem?_eq_some_iff.1 hx).1
  rw [List.length_append, List.length_singleton] at hi ⊢
  by_cases h1 : i < ys.length
  · omega
  · have : i = ys.length := by omega
    subst this
    rw [List.getElem?_append_right (Nat.le_refl _), Nat.sub_self] at hx
    injection hx with hx
    subst hx
    exact absurd rfl hk
/-- What is accepted is a catalog, and its lexemes are those of the catalog's text. -/
theorem parsePr_inv {s : List UInt8} {l : List Pr} {a : Int} (h : parsePr s = (l, 0, a)) : a = 0 ∧ checkPr l = 0 ∧ (∀ x ∈ l, PrWf x) ∧ ∃ ys, scanP s = (ys ++ [lxEnd s.length], 0, 0) ∧ (∀ y ∈ ys, lexOK y) ∧ ys.map Lx.bare = l.flatMap prToks := by
  obtain ⟨xs, e, at_, hsc⟩ : ∃ xs e at_, scanP s = (xs, e, at_) := ⟨_, _, _, rfl⟩
  unfold parsePr at h
  rw [hsc] at h
  simp only at h
  by_cases he : e = 0
  · subst he
    have ha0 : at_ = 0 := by have := (scanP_good s (by rw [hsc])).2.1; rw [hsc] at this; exact this
    subst ha0
    rw [if_neg (by simp)] at h
    obtain ⟨ys, rfl, hk, hok, h8⟩ := scanP_can hsc
    obtain ⟨R, hR⟩ : ∃ R, prodAll (ys ++ [lxEnd s.length]) (ys ++ [lxEnd s.length]).length (0, false) [] [] = R := ⟨_, rfl⟩
    rw [hR] at h
    by_cases hf : R.2.2.2 = true
    · rw [if_pos hf] at h
      exact absurd (show (5 : Int) = 0 from congrArg (·.2.1) h) (by decide)
    · rw [if_neg hf] at h
      by_cases hh : (headsErr R.1 R.2.1 0).1 = 0
      · rw [if_neg (by simp [hh])] at h
        simp only [Prod.mk.injEq, true_and] at h
        obtain ⟨h1, h2⟩ := h
        have hinv := prods_inv hk (canonP_of (pe := s.length) hok) (endsP hk) (ys ++ [lxEnd s.length]).length (0, false) [] [] (by simp) (by rw [List.length_append, List.length_singleton]; simp) (by rw [hR]; simpa using hf) rfl
        obtain ⟨rest, r1, r2, r3, r4⟩ := hinv
        rw [hR] at r1 r2
        rw [List.nil_append] at r1 r2
        rw [h1] at r1
        subst r1
        obtain ⟨z1, z2⟩ := heads_zero _ _ hh
        have hck : checkPr l = 0 := by
          rw [h1] at z2
          rcases Nat.eq_zero_or_pos l.length with h0 | h0
          · rw [List.length_eq_zero_iff.1 h0]; rfl
          · have := z2 (l.length - 1) (by omega)
            rwa [List.take_of_length_le (by omega)] at this
        refine ⟨h2.symm, hck, r3, ys, hsc, hok, ?_⟩
        rw [List.drop_zero, List.map_append] at r4
        have := congrArg List.dropLast r4
        rw [List.map_singleton, List.dropLast_concat, List.dropLast_concat] at this
        exact this
      · rw [if_pos hh] at h
        exact absurd (congrArg (·.2.1) h) hh
  · rw [if_pos he] at h
    exact absurd (congrArg (·.2.1) h) he
/-- With an error nothing is returned. -/
theorem parsePr_bad {s : List UInt8} {l : List Pr} {e a : Int} (h : parsePr s = (l, e, a)) (he : e ≠ 0) : l = [] := by
  unfold parsePr at h
  split at h
  · simp only [Prod.mk.injEq] at h; exact h.1.symm
  · split at h
    · simp only [Prod.mk.injEq] at h; exact h.1.symm
    · split at h
      · simp only [Prod.mk.injEq] at h; exact h.1.symm
      · simp only [Prod.mk.injEq] at h; exact absurd h.2.1.symm he
theorem texts_ofP {xs : List Lx} {e : Lx} (hk : ∀ x ∈ xs, x.kind ≠ 0) (he : e.kind = 0) : texts (xs ++ [e]) = xs.map (·.text) := by
  rw [texts_snoc, if_neg (by simp [he]), List.append_nil, texts]
  rw [List.filter_eq_self.2 (fun x hx => by simpa using hk x hx)]
theorem flat_texts : ∀ ys : List Lx, (∀ y ∈ ys, lexOK y) → (ys.map (·.text)).length ≤ (ys.map (·.text)).flatten.length
  | [], _ => by simp
  | y :: r, h => by
    have := flat_texts r (fun z hz => h z (by simp [hz]))
    have h1 : 1 ≤ y.text.length := by
      have hy := (h y (by simp)).2 0
      have := readP_text _ _ (show (readP y.text 0).2 = 0 by rw [hy])
      rw [hy] at this
      exact this.1
    simp only [List.map_cons, List.length_cons, List.flatten_cons, List.length_append]
    omega
/-- The lexemes of a text, printed, describe the same catalog. -/
theorem parsePr_print {s : List UInt8} {l : List Pr} {a : Int} (h : parsePr s = (l, 0, a)) (hl : s.length ≤ 4000) : ∃ xs, scanP s = (xs, 0, 0) ∧ parsePr (printP xs) = (l, 0, 0) ∧ (printP xs).length ≤ 8000 := by
  obtain ⟨_, hck, hw, ys, hsc, hok, hb⟩ := parsePr_inv h
  have hk : ∀ y ∈ ys, y.kind ≠ 0 := fun y hy => (hok y hy).1
  refine ⟨_, hsc, ?_⟩
  have hpr : printP (ys ++ [lxEnd s.length]) = Go.Lib.join (ys.map (·.text)) [32] := by rw [printP, texts_ofP hk rfl]
  have hjl := join_len (ys.map (·.text))
  have hft := flat_texts ys hok
  have htl : (ys.map (·.text)).flatten.length ≤ s.length := by
    rw [scanP_eq s (by omega)] at hsc
    obtain ⟨us, hu1, _, _, hu4⟩ := scanS_lexOK _ s 0 (Nat.le_refl _) (by rw [hsc])
    rw [hsc] at hu1
    have := congrArg List.dropLast hu1
    simp only [List.dropLast_concat] at this
    rw [this]
    exact hu4
  obtain ⟨zs, h1, h2, _, h4⟩ := scanS_again ys hok 0
  have hsc2 : scanP (printP (ys ++ [lxEnd s.length])) = (zs ++ [lxEnd (0 + (Go.Lib.join (ys.map (·.text)) [32]).length)], 0, 0) := by rw [hpr, scanP_eq _ (by omega), h1]
  have hb2 : zs.map Lx.bare = ys.map Lx.bare := ((sameP_bare ys zs).1 h2).symm
  refine ⟨(parse_toks (e := (lxEnd (0 + (Go.Lib.join (ys.map (·.text)) [32]).length)).bare) hsc2 rfl ?_ hw).1 hck, by rw [hpr]; omega⟩
  rw [List.map_append, hb2, hb]; rfl
/-- Two texts with a line feed between them. -/
theorem parsePr_join {s t : List UInt8} {a b : List Pr} {e1 e2 : Int} (h1 : parsePr s = (a, 0, e1)) (h2 : parsePr t = (b, 0, e2)) (hs : s.length ≤ 3900) (ht : t.length ≤ 3900) :
    (checkPr (a ++ b) = 0 → parsePr (s ++ 10 :: t) = (a ++ b, 0, 0)) ∧ (checkPr (a ++ b) ≠ 0 → ∃ er at_, er ≠ 0 ∧ parsePr (s ++ 10 :: t) = ([], er, at_)) := by
  obtain ⟨_, _, hw1, ys, hsc1, _, hb1⟩ := parsePr_inv h1
  obtain ⟨_, _, hw2, zs, hsc2, _, hb2⟩ := parsePr_inv h2
  have hl : (s ++ 10 :: t).length ≤ 8000 := by rw [List.length_append, List.length_cons]; omega
  rw [scanP_eq s (by omega)] at hsc1
  rw [scanP_eq t (by omega)] at hsc2
  have hj := scanS_join s.length s t 0 (Nat.le_refl _)
  rw [hsc1, if_pos rfl, List.dropLast_concat] at hj
  obtain ⟨us, hu1, hu2⟩ : ∃ us, scanS t (0 + s.length + 1) = (us, 0, 0) ∧ us.map Lx.bare = zs.map Lx.bare ++ [(lxEnd 0).bare] := by
    have hsh := scanS_shift t.length t 0 (s.length + 1) (Nat.le_refl _)
    rw [hsc2, if_pos rfl] at hsh
    rw [show (0 : Int) + s.length + 1 = 0 + (s.length + 1) by omega, hsh]
    refine ⟨_, rfl, ?_⟩
    rw [List.map_map, List.map_append]
    rfl
  rw [hu1, lxAhead, if_pos rfl] at hj
  have hsc : scanP (s ++ 10 :: t) = (ys ++ us, 0, 0) := by rw [scanP_eq _ hl, hj]
  refine parse_toks (e := (lxEnd 0).bare) hsc rfl ?_ ?_
  · rw [List.map_append, hu2, hb1, hb2, List.flatMap_append, List.append_assoc]
  · intro x hx
    rcases List.mem_append.1 hx with hx | hx
    · exact hw1 x hx
    · exact hw2 x hx

end Saw
