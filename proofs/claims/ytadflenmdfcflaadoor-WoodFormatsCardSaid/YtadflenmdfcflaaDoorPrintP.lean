/-
  Plain: the print of lexemes, and whether two lists have the same lexemes.
-/
import Derived.Test.YtadflenmdfcflaaDoorScanP
import Derived.Lib.Join
namespace Saw

/-- The texts of the lexemes that are not the end. -/
def texts (l : List Lx) : List (List UInt8) := (l.filter fun x => x.kind != 0).map (·.text)
def printP (l : List Lx) : List UInt8 := Go.Lib.join (texts l) [32]

def sameLx (x y : Lx) : Bool := (x.kind == y.kind) && (x.text == y.text) && (x.num == y.num)
/-- The same lexemes, apart from their offsets. -/
def sameP : List Lx → List Lx → Bool
  | [], [] => true
  | x :: r, y :: q => sameLx x y && sameP r q
  | _, _ => false

theorem texts_snoc (l : List Lx) (x : Lx) : texts (l ++ [x]) = texts l ++ (if (x.kind != 0) = true then [x.text] else []) := by
  unfold texts
  rw [List.filter_append, List.map_append]
  by_cases h : (x.kind != 0) = true <;> simp [h]
theorem texts_len (l : List Lx) : (texts l).length ≤ l.length := by
  unfold texts
  rw [List.length_map]
  exact List.length_filter_le _ _

theorem same_len : ∀ (l l' : List Lx), sameP l l' = true → l.length = l'.length
  | [], [], _ => rfl
  | [], _ :: _, h => by simp [sameP] at h
  | _ :: _, [], h => by simp [sameP] at h
  | x :: r, y :: q, h => by
    simp only [sameP, Bool.and_eq_true] at h
    simp [same_len r q h.2]
theorem same_step : ∀ (l l' : List Lx) (k : Nat) (x y : Lx), l[k]? = some x → l'[k]? = some y → sameP (l.drop k) (l'.drop k) = (sameLx x y && sameP (l.drop (k + 1)) (l'.drop (k + 1))) := by
  intro l l' k x y hx hy
  have hk := (List.getElem?_eq_some_iff.1 hx)
  have hk' := (List.getElem?_eq_some_iff.1 hy)
  rw [List.drop_eq_getElem_cons hk.1, List.drop_eq_getElem_cons hk'.1, hk.2, hk'.2, sameP]
theorem same_refl : ∀ l : List Lx, sameP l l = true
  | [] => rfl
  | x :: r => by simp [sameP, sameLx, same_refl r]

end Saw
