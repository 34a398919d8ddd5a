/-
  Plain: boards of a charge, what charge.Check answers, their items.
-/
import Derived.Test.YthineckpociomaaDoorKiQ
import Derived.Test.YthineckpociomaaDoorRd
namespace Saw
open Go

/-- A board; its defects are a slice at da, dn of dc. -/
structure Bd where
  id : List UInt8
  log : List UInt8
  species : List UInt8
  product : Int
  xa : Int
  xb : Int
  ya : Int
  yb : Int
  za : Int
  zb : Int
  volume : Int
  da : Option Addr
  dn : Nat
  dc : Nat
  wane : Int
  surf : Int
  core : Int
  stress : Int
  dried : Bool
  grade : Int
def Bd.cl (b : Bd) : Cl := ⟨b.surf, b.core, b.stress⟩
def lenP (a b : Int) : Int := if b ≤ a then 0 else min (b - a) 9223372036854775807
def thickP (b : Bd) : Int := min (lenP b.xa b.xb) (lenP b.ya b.yb)
theorem lenP_in (a b : Int) : 0 ≤ lenP a b ∧ lenP a b ≤ 9223372036854775807 := by unfold lenP; split <;> omega
def checkBd (n : List UInt8) (b : Bd) : Int :=
  if b.species ≠ n then 24 else if b.dried = true then 14 else if checkCl b.cl ≠ 0 then checkCl b.cl else if thickP b < 1 ∨ 600 < thickP b then 9 else 0
def firstBd (n : List UInt8) : List Bd → Int
  | [] => 0
  | b :: r => if checkBd n b ≠ 0 then checkBd n b else firstBd n r
theorem firstBd_drop {n : List UInt8} {l : List Bd} {k : Nat} {x : Bd} {q : Int} (h : l[k]? = some x) (hq : firstBd n (l.drop k) = q) :
    (checkBd n x ≠ 0 → q = checkBd n x) ∧ (checkBd n x = 0 → firstBd n (l.drop (k + 1)) = q) := by
  have hlt := (List.getElem?_eq_some_iff.1 h).1
  have he := (List.getElem?_eq_some_iff.1 h).2
  rw [List.drop_eq_getElem_cons hlt, he, firstBd] at hq
  refine ⟨fun h1 => ?_, fun h1 => ?_⟩
  · rw [if_pos h1] at hq; exact hq.symm
  · rw [if_neg (by omega)] at hq; exact hq
theorem firstBd_all {n : List UInt8} : ∀ {l : List Bd}, firstBd n l = 0 → ∀ b ∈ l, checkBd n b = 0
  | [], _, b, hb => absurd hb (by simp)
  | x :: r, h, b, hb => by
    rw [firstBd] at h
    have h1 : checkBd n x = 0 := by
      rcases Decidable.em (checkBd n x = 0) with h1 | h1
      · exact h1
      · rw [if_pos h1] at h; exact absurd h h1
    rw [if_neg (by omega)] at h
    rcases List.mem_cons.1 hb with rfl | hb
    · exact h1
    · exact firstBd_all h b hb
theorem checkBd_ok {n : List UInt8} {b : Bd} (h : checkBd n b = 0) : b.species = n ∧ b.dried = false ∧ ClOk b.cl ∧ 1 ≤ thickP b ∧ thickP b ≤ 600 := by
  unfold checkBd at h
  split at h
  · cases h
  · rename_i h1
    split at h
    · cases h
    · rename_i h2
      split at h
      · rename_i h3; exact absurd h h3
      · rename_i h3
        split at h
        · cases h
        · rename_i h4
          exact ⟨by simpa using h1, by simpa using h2, checkCl_ok.1 (by omega), by omega, by omega⟩
/-- The items of boards. -/
def itemP (b : Bd) : Int × Cl := (thickP b, b.cl)
/-- The boards with the cells of items. -/
def driedB (b : Bd) (A : Option Addr) (k : Nat) (c : Cl) : Bd := { b with da := A, dc := k, surf := c.surf, core := c.core, stress := c.stress, dried := true }
end Saw
