/-
  Plain: the text of a catalog of species.
-/
import Derived.Test.YtadflenmdfcflaaDoorWoodS
import Derived.Lib.ItoaLen
namespace Saw

/-- A word and its number. -/
def wordNum (p : List UInt8 × Int) : List UInt8 := 32 :: p.1 ++ 32 :: Go.Lib.itoa p.2
def spHead (x : Sp) : List UInt8 := speciesW ++ 32 :: x.name
/-- The text of a species. -/
def spText (x : Sp) : List UInt8 := spHead x ++ (wordsL.zip x.nums).flatMap wordNum ++ [59, 10]
/-- The text of a catalog. -/
def formatSp (l : List Sp) : List UInt8 := if checkSp l = 0 then l.flatMap spText else []

theorem checkFrom_all {l : List Sp} : ∀ (n k : Nat), l.length - k ≤ n → checkFrom l k = 0 → ∀ i, k ≤ i → i < l.length → ∃ x, l[i]? = some x ∧ isNameP x.name = true ∧ (findSp (l.take i) x.name) = none ∧ inRangeP x = true := by
  intro n
  induction n with
  | zero => intro k hk _ i h1 h2; omega
  | succ n ih =>
    intro k hk h i h1 h2
    by_cases hkl : k < l.length
    · rw [checkFrom_eq, dif_pos hkl] at h
      by_cases a1 : isNameP l[k].name = false
      · rw [if_pos a1] at h; cases h
      · rw [if_neg a1] at h
        by_cases a2 : (findSp (l.take k) l[k].name).isSome = true
        · rw [if_pos a2] at h; cases h
        · rw [if_neg a2] at h
          by_cases a3 : inRangeP l[k] = false
          · rw [if_pos a3] at h; cases h
          · rw [if_neg a3] at h
            by_cases hik : i = k
            · subst hik
              exact ⟨l[i], List.getElem?_eq_getElem h2, by simpa using a1, by simpa using a2, by simpa using a3⟩
            · exact ih (k + 1) (by omega) h i (by omega) h2
    · omega
theorem checkSp_all {l : List Sp} (h : checkSp l = 0) : l.length ≤ 8 ∧ ∀ i, i < l.length → ∃ x, l[i]? = some x ∧ isNameP x.name = true ∧ (findSp (l.take i) x.name) = none ∧ inRangeP x = true := by
  rw [checkSp] at h
  by_cases h8 : 8 < l.length
  · rw [if_pos h8] at h; cases h
  · rw [if_neg h8] at h
    exact ⟨by omega, fun i hi => checkFrom_all _ 0 (Nat.le_refl _) h i (Nat.zero_le _) hi⟩
theorem isNameP_len {l : List UInt8} (h : isNameP l = true) : 1 ≤ l.length ∧ l.length ≤ 16 := by
  cases l with
  | nil => cases h
  | cons c r =>
    rw [isNameP, Bool.and_eq_true, Bool.and_eq_true] at h
    exact ⟨by simp, of_decide_eq_true h.1.1⟩
theorem inRange_bd {x : Sp} (h : inRangeP x = true) : ∀ n ∈ x.nums, 0 ≤ n ∧ n ≤ 1000000 := by
  unfold inRangeP Sp.nums Sp.ranges at h
  simp only [List.zip_cons_cons, List.zip_nil_right, List.all_cons, List.all_nil, Bool.and_true, Bool.and_eq_true, decide_eq_true_eq] at h
  intro n hn
  simp only [Sp.nums, List.mem_cons, List.not_mem_nil, or_false] at hn
  omega
theorem wordNum_len (p : List UInt8 × Int) (hw : p.1.length ≤ 8) (h0 : 0 ≤ p.2) (h1 : p.2 ≤ 1000000) : (wordNum p).length ≤ 40 := by
  have := Go.Lib.itoa_length_le p.2 (by omega) (by omega)
  simp only [wordNum, List.cons_append, List.length_cons, List.length_append]
  omega

end Saw
