/-
  Plain: names; species and their ranges.
-/
import Derived.Test.YtadflenmdfcflaaDoorPlain
namespace Saw

def smallI (c : Int) : Bool := decide (97 ≤ c) && decide (c ≤ 122)
def nameI (c : Int) : Bool := smallI c || digI c || c == 95
/-- A name. -/
def isNameP (l : List UInt8) : Bool :=
  match l with
  | [] => false
  | c :: r => decide (l.length ≤ 16) && smallI c.toNat && r.all fun d => nameI d.toNat

/-- A species: its name and its twelve numbers, in the order of the struct and of the text. -/
structure Sp where
  name : List UInt8
  green : Int
  fast : Int
  slow : Int
  safe : Int
  grad : Int
  crack : Int
  temp : Int
  depress : Int
  density : Int
  stiff : Int
  knots : Int
  shrink : Int

def Sp.nums (x : Sp) : List Int := [x.green, x.fast, x.slow, x.safe, x.grad, x.crack, x.temp, x.depress, x.density, x.stiff, x.knots, x.shrink]
def Sp.zero : Sp := ⟨[], 0, 0, 0, 0, 0, 0, 0, 0, 0, 0, 0, 0⟩
theorem Sp.ext_iff' (a b : Sp) : a = b ↔ a.name = b.name ∧ a.nums = b.nums := by
  cases a; cases b
  simp [Sp.nums]
instance : DecidableEq Sp := fun a b => decidable_of_iff (a.name = b.name ∧ a.nums = b.nums) (Sp.ext_iff' a b).symm

def Sp.ranges (x : Sp) : List (Int × Int) := [(3000, 20000), (1, 10000), (1, x.fast), (0, x.grad), (1, 20000), (1, 1000000), (200, 1200), (100, 400), (200, 1500), (1000, 30000), (0, 1000), (0, 200)]
/-- All numbers of a species are in their ranges. -/
def inRangeP (x : Sp) : Bool := (x.nums.zip x.ranges).all fun p => decide (p.2.1 ≤ p.1) && decide (p.1 ≤ p.2.2)

def findSp (l : List Sp) (n : List UInt8) : Option Sp := l.find? fun x => x.name == n
/-- The error of a list of species, the rest of it and where that begins given, the species ahead of it being checked. -/
def checkL (l : List Sp) : List Sp → Nat → Int
  | [], _ => 0
  | x :: r, k => if isNameP x.name = false then 6 else if (findSp (l.take k) x.name).isSome then 7 else if inRangeP x = false then 9 else checkL l r (k + 1)
def checkFrom (l : List Sp) (k : Nat) : Int := checkL l (l.drop k) k
theorem checkFrom_eq (l : List Sp) (k : Nat) : checkFrom l k = if h : k < l.length then
      (if isNameP l[k].name = false then 6 else if (findSp (l.take k) l[k].name).isSome then 7 else if inRangeP l[k] = false then 9 else checkFrom l (k + 1))
    else 0 := by
  by_cases h : k < l.length
  · rw [dif_pos h, checkFrom, List.drop_eq_getElem_cons h, checkL]
    rfl
  · rw [dif_neg h, checkFrom, List.drop_eq_nil_of_le (by omega)]
    rfl
def checkSp (l : List Sp) : Int := if 8 < l.length then 4 else checkFrom l 0

end Saw
