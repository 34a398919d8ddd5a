/-
  Plain: invoices.
-/
import Derived.Test.YtdbkdneolcgfjaaDoorPrP
namespace Saw

/-- An item of an invoice. -/
structure It where
  product : Int
  length : Int
  count : Int
  price : Int
/-- A tier of discounts. -/
structure Ti where
  lo : Int
  off : Int

def amtP (v p : Int) : Int := v / 1000000000 * p + (v % 1000000000 * p + 500000000) / 1000000000
/-- The amount of an item of a catalog that is checked. -/
def amountOk (c : List Pr) (i : It) : Int × Int :=
  if i.product < 0 ∨ (c.length : Int) ≤ i.product then (0, 8)
  else if i.length ∉ (c.getD i.product.toNat Pr.zero).lens then (0, 20)
  else if i.count < 0 ∨ 200 < i.count ∨ i.price < 0 ∨ 1000000000 < i.price then (0, 9)
  else (amtP (volumeP (c.getD i.product.toNat Pr.zero) i.length * i.count) i.price, 0)
def amountP (c : List Pr) (i : It) : Int × Int := if checkPr c ≠ 0 then (0, checkPr c) else amountOk c i

def tiersL : Option Int → List Ti → Int
  | _, [] => 0
  | prev, t :: r => if t.lo < 0 ∨ (prev.map fun m => decide (t.lo ≤ m)) = some true then 11 else if 1000000000000000 < t.lo ∨ t.off < 0 ∨ 1000 < t.off then 9 else tiersL (some t.lo) r
def tiersFrom (l : List Ti) (k : Nat) : Int := tiersL (if k = 0 then none else (l[k - 1]?).map Ti.lo) (l.drop k)
theorem tiersFrom_end {l : List Ti} {k : Nat} (h : ¬ k < l.length) : tiersFrom l k = 0 := by
  rw [tiersFrom, List.drop_eq_nil_of_le (by omega), tiersL]
theorem tiersFrom_zero {l : List Ti} {t : Ti} (h : l[0]? = some t) :
    tiersFrom l 0 = if t.lo < 0 then 11 else if 1000000000000000 < t.lo ∨ t.off < 0 ∨ 1000 < t.off then 9 else tiersFrom l 1 := by
  obtain ⟨hk, hn⟩ := List.getElem?_eq_some_iff.1 h
  rw [tiersFrom, List.drop_eq_getElem_cons hk, hn, tiersL, tiersFrom]
  simp [h]
theorem tiersFrom_at {l : List Ti} {k : Nat} {t u : Ti} (h : l[k + 1]? = some t) (hu : l[k]? = some u) :
    tiersFrom l (k + 1) = if t.lo < 0 ∨ t.lo ≤ u.lo then 11 else if 1000000000000000 < t.lo ∨ t.off < 0 ∨ 1000 < t.off then 9 else tiersFrom l (k + 1 + 1) := by
  obtain ⟨hk, hn⟩ := List.getElem?_eq_some_iff.1 h
  rw [tiersFrom, List.drop_eq_getElem_cons hk, hn, tiersL, tiersFrom]
  simp [h, hu]
def offL (total : Int) : List Ti → Int → Int
  | [], o => o
  | t :: r, o => offL total r (if t.lo ≤ total then t.off else o)
def discountP (l : List Ti) (total : Int) : Int × Int :=
  if 8 < l.length then (0, 4) else if tiersFrom l 0 ≠ 0 then (0, tiersFrom l 0) else if total < 0 ∨ 1000000000000000 < total then (0, 9) else (total * offL total l 0 / 1000, 0)

def sumL (c : List Pr) : List It → List Int → Int → List Int × Int × Int
  | [], acc, n => (acc, n, 0)
  | i :: r, acc, n => if (amountP c i).2 ≠ 0 then ([], 0, (amountP c i).2) else sumL c r (acc ++ [(amountP c i).1]) (n + (amountP c i).1)
/-- The amounts, their sum, the error. -/
def sumP (c : List Pr) (l : List It) : List Int × Int × Int := if 32 < l.length then ([], 0, 4) else sumL c l [] 0
/-- The amounts, their sum, the discount, the error. -/
def sumsP (c : List Pr) (l : List It) (t : List Ti) : List Int × Int × Int × Int :=
  if (sumP c l).2.2 ≠ 0 then ([], 0, 0, (sumP c l).2.2)
  else if (discountP t (sumP c l).2.1).2 ≠ 0 then ([], 0, 0, (discountP t (sumP c l).2.1).2)
  else ((sumP c l).1, (sumP c l).2.1, (discountP t (sumP c l).2.1).1, 0)
def totalP (c : List Pr) (l : List It) (t : List Ti) : Int × Int := ((sumsP c l t).2.1 - (sumsP c l t).2.2.1, (sumsP c l t).2.2.2)

/-- Words and their ends: a line out of a word and numbers. -/
def lineP (w : List UInt8) (ns : List Int) : List UInt8 := w ++ ns.flatMap (fun n => 32 :: Go.Lib.itoa n) ++ [10]
def discountW : List UInt8 := [100, 105, 115, 99, 111, 117, 110, 116]
def totalW : List UInt8 := [116, 111, 116, 97, 108]
def itemLine (c : List Pr) (i : It) (a : Int) : List UInt8 := lineP (c.getD i.product.toNat Pr.zero).name [i.length, i.count, a]
def itemLines (c : List Pr) (l : List It) (as : List Int) : List UInt8 := (l.zip as).flatMap fun p => itemLine c p.1 p.2
def textP (c : List Pr) (l : List It) (t : List Ti) : List UInt8 × Int :=
  if (sumsP c l t).2.2.2 ≠ 0 then ([], (sumsP c l t).2.2.2)
  else (itemLines c l (sumsP c l t).1 ++ lineP discountW [(sumsP c l t).2.2.1] ++ lineP totalW [(sumsP c l t).2.1 - (sumsP c l t).2.2.1], 0)

end Saw
