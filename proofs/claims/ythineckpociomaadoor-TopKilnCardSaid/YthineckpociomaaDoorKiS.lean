/-
  Plain: what charge.Dry answers.
-/
import Derived.Test.YthineckpociomaaDoorKiR
namespace Saw

def checkFa (x : Fa) : Int := if x.kind < 1 ∨ 3 < x.kind then 10 else if x.fro < 0 ∨ x.upto ≤ x.fro ∨ 20000 < x.upto then 9 else 0
def firstFa : List Fa → Int
  | [] => 0
  | x :: r => if checkFa x ≠ 0 then checkFa x else firstFa r
theorem firstFa_drop {l : List Fa} {k : Nat} {x : Fa} {q : Int} (h : l[k]? = some x) (hq : firstFa (l.drop k) = q) :
    (checkFa x ≠ 0 → q = checkFa x) ∧ (checkFa x = 0 → firstFa (l.drop (k + 1)) = q) := by
  have hlt := (List.getElem?_eq_some_iff.1 h).1
  have he := (List.getElem?_eq_some_iff.1 h).2
  rw [List.drop_eq_getElem_cons hlt, he, firstFa] at hq
  refine ⟨fun h1 => ?_, fun h1 => ?_⟩
  · rw [if_pos h1] at hq; exact hq.symm
  · rw [if_neg (by omega)] at hq; exact hq
/-- What charge.Check answers. -/
def checkCh (l : List Bd) (s : Sp) (sc : Sc) : Int :=
  if l = [] then 3 else if 1024 < l.length then 4 else if firstBd s.name l ≠ 0 then firstBd s.name l else if checkSc sc ≠ 0 then checkSc sc else checkSp [s]
theorem checkCh_ok {l : List Bd} {s : Sp} {sc : Sc} (h : checkCh l s sc = 0) : 0 < l.length ∧ firstBd s.name l = 0 ∧ checkSc sc = 0 ∧ checkSp [s] = 0 := by
  unfold checkCh at h
  split at h
  · cases h
  · rename_i h0
    split at h
    · cases h
    · split at h
      · rename_i h1; exact absurd h h1
      · rename_i h1
        split at h
        · rename_i h2; exact absurd h h2
        · rename_i h2
          exact ⟨List.length_pos_iff.2 h0, by omega, by omega, h⟩
/-- The error of charge.Dry. -/
def dryE (l : List Bd) (s : Sp) (sc : Sc) (fs : List Fa) (t : Int) : Int :=
  if checkCh l s sc ≠ 0 then checkCh l s sc else if t < 0 ∨ 20000 < t then 9 else firstFa fs
theorem ssOk_of {sc : Sc} {s : Sp} (h1 : checkSc sc = 0) (h2 : checkSp [s] = 0) : SsOk sc s := by
  obtain ⟨_, r1, r2, _, l2, st⟩ := checkSc_ok h1
  have h3 : inRangeP s = true := by
    have h : checkL [s] [s] 0 = 0 := h2
    rw [checkL] at h
    split at h
    · cases h
    · split at h
      · cases h
      · split at h
        · cases h
        · rename_i h4
          simpa using h4
  have h4 := List.all_eq_true.1 h3
  simp only [Sp.nums, Sp.ranges, List.zip_cons_cons, List.zip_nil_left, List.mem_cons, List.not_mem_nil, or_false, forall_eq_or_imp, forall_eq, Bool.and_eq_true, decide_eq_true_eq] at h4
  exact ⟨⟨by omega, by omega, by omega, by omega, by omega, by omega⟩, by omega, by omega, by omega, st, l2, ⟨r1, r2⟩⟩
end Saw
