/-
  Plain: products, their checks and sizes.
-/
import Derived.Test.YtkalkglllgebkaaDoorPlainA
namespace Saw

/-- A product. -/
structure Pr where
  name : List UInt8
  thick : Int
  width : Int
  allow : Int
  wane : Int
  lens : List Int
  prices : List Int

def Pr.zero : Pr := ⟨[], 0, 0, 0, 0, [], []⟩
theorem Pr.ext_iff' (a b : Pr) : a = b ↔ a.name = b.name ∧ [a.thick, a.width, a.allow, a.wane] = [b.thick, b.width, b.allow, b.wane] ∧ a.lens = b.lens ∧ a.prices = b.prices := by
  cases a; cases b
  simp [and_assoc]
instance : DecidableEq Pr := fun a b => decidable_of_iff _ (Pr.ext_iff' a b).symm

def sizeOkP (n : Int) : Bool := decide (1 ≤ n) && decide (n ≤ 600)
def growP (n a : Int) : Int := (n * (1000 + a) + 999) / 1000
def greenP (x : Pr) : Int × Int :=
  if sizeOkP x.thick && sizeOkP x.width && decide (0 ≤ x.allow) && decide (x.allow ≤ 200) then (growP x.thick x.allow, growP x.width x.allow) else (0, 0)
def volumeP (x : Pr) (n : Int) : Int :=
  if sizeOkP x.thick && sizeOkP x.width && decide (1 ≤ n) && decide (n ≤ 20000) then x.thick * x.width * n else 0

/-- The error of lengths, the rest of them and the one ahead of it given. -/
def lensL : Option Int → List Int → Int
  | _, [] => 0
  | prev, n :: r => if n < 100 ∨ 20000 < n then 9 else if (prev.map fun m => decide (n ≤ m)) = some true then 11 else lensL (some n) r
def lensFrom (l : List Int) (k : Nat) : Int := lensL (if k = 0 then none else l[k - 1]?) (l.drop k)
theorem lensFrom_end {l : List Int} {k : Nat} (h : ¬ k < l.length) : lensFrom l k = 0 := by
  rw [lensFrom, List.drop_eq_nil_of_le (by omega), lensL]
theorem lensFrom_at {l : List Int} {k : Nat} {n : Int} (h : l[k]? = some n) :
    lensFrom l k = if n < 100 ∨ 20000 < n then 9 else if 0 < k ∧ n ≤ l.getD (k - 1) 0 then 11 else lensFrom l (k + 1) := by
  obtain ⟨hk, hn⟩ := List.getElem?_eq_some_iff.1 h
  rw [lensFrom, List.drop_eq_getElem_cons hk, hn, lensL]
  have e : lensFrom l (k + 1) = lensL (some n) (l.drop (k + 1)) := by
    rw [lensFrom, if_neg (by omega), Nat.add_sub_cancel, h]
  rw [e]
  by_cases h0 : k = 0
  · subst h0
    simp
  · have hk1 : k - 1 < l.length := by omega
    simp only [h0, if_false, List.getElem?_eq_getElem hk1, Option.map_some, Option.some.injEq, decide_eq_true_eq, List.getD_eq_getElem?_getD, Option.getD_some, show 0 < k from by omega, true_and]
def pricesL : List Int → Int
  | [] => 0
  | n :: r => if n < 0 ∨ 1000000 < n then 9 else pricesL r
def pricesFrom (l : List Int) (k : Nat) : Int := pricesL (l.drop k)
theorem pricesFrom_end {l : List Int} {k : Nat} (h : ¬ k < l.length) : pricesFrom l k = 0 := by
  rw [pricesFrom, List.drop_eq_nil_of_le (by omega), pricesL]
theorem pricesFrom_at {l : List Int} {k : Nat} {n : Int} (h : l[k]? = some n) : pricesFrom l k = if n < 0 ∨ 1000000 < n then 9 else pricesFrom l (k + 1) := by
  obtain ⟨hk, hn⟩ := List.getElem?_eq_some_iff.1 h
  rw [pricesFrom, List.drop_eq_getElem_cons hk, hn, pricesL]
  rfl
/-- The error of lengths and prices. -/
def listsP (x : Pr) : Int :=
  if x.lens.length = 0 then 3 else if 8 < x.lens.length then 4 else if x.prices.length ≠ x.lens.length then 19
  else if lensFrom x.lens 0 ≠ 0 then lensFrom x.lens 0 else pricesFrom x.prices 0
/-- The error of a product's numbers. -/
def checkNumP (x : Pr) : Int :=
  if x.thick < 5 ∨ 300 < x.thick ∨ x.width < x.thick ∨ 600 < x.width then 9
  else if x.allow < 0 ∨ 200 < x.allow ∨ x.wane < 0 ∨ 1000 < x.wane then 9
  else if 600 < (greenP x).2 then 9
  else listsP x

/-- The index of the first product with a name. -/
def findPr (l : List Pr) (n : List UInt8) : Option Nat := l.findIdx? fun x => x.name == n
def checkPrL (l : List Pr) : List Pr → Nat → Int
  | [], _ => 0
  | x :: r, k => if isNameP x.name = false then 6 else if (findPr (l.take k) x.name).isSome then 7 else if checkNumP x ≠ 0 then checkNumP x else checkPrL l r (k + 1)
def checkPrFrom (l : List Pr) (k : Nat) : Int := checkPrL l (l.drop k) k
theorem checkPr_end {l : List Pr} {k : Nat} (h : ¬ k < l.length) : checkPrFrom l k = 0 := by
  rw [checkPrFrom, List.drop_eq_nil_of_le (by omega), checkPrL]
theorem checkPr_at {l : List Pr} {k : Nat} {x : Pr} (h : l[k]? = some x) :
    checkPrFrom l k = if isNameP x.name = false then 6 else if (findPr (l.take k) x.name).isSome then 7 else if checkNumP x ≠ 0 then checkNumP x else checkPrFrom l (k + 1) := by
  obtain ⟨hk, hn⟩ := List.getElem?_eq_some_iff.1 h
  rw [checkPrFrom, List.drop_eq_getElem_cons hk, hn, checkPrL]
  rfl
def checkPr (l : List Pr) : Int := if 16 < l.length then 4 else checkPrFrom l 0

/-- The price of a length. -/
def priceL : List Int → List Int → Int → Option Int
  | [], _, _ => none
  | n :: r, ps, x => if n = x then ps.head? else priceL r ps.tail x
def priceP (x : Pr) (n : Int) : Option Int := priceL x.lens x.prices n

end Saw
