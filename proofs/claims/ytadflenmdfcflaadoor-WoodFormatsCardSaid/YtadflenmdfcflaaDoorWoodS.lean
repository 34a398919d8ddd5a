/-
  Plain: a catalog out of lexemes.
-/
import Derived.Test.YtadflenmdfcflaaDoorWoodR
namespace Saw

/-- The statements from an index on, the species ahead of it being read: the species, the error, its offset. -/
def parseAll (xs : List Lx) : Nat → Nat → List Sp → List Sp × Int × Int
  | 0, _, acc => (acc, 0, 0)
  | n + 1, k, acc =>
    if (lxAt xs k).kind = 0 then (acc, 0, 0)
    else if (stmtP xs k).2.2 = false then (acc, 5, (lxAt xs (stmtP xs k).2.1).off)
    else if checkSp (acc ++ [(stmtP xs k).1]) ≠ 0 then (acc ++ [(stmtP xs k).1], checkSp (acc ++ [(stmtP xs k).1]), (lxAt xs k).off)
    else parseAll xs n (stmtP xs k).2.1 (acc ++ [(stmtP xs k).1])

theorem check_nil : checkSp [] = 0 := rfl

theorem readNums_ge (xs : List Lx) : ∀ (ws : List (List UInt8)) (k : Nat) (acc : List Int), k ≤ (readNums xs ws k acc).2.1
  | [], k, acc => Nat.le_refl _
  | w :: ws, k, acc => by
    rw [readNums]
    split
    · split
      · have := readNums_ge xs ws (k + 2) (acc ++ [(lxAt xs (k + 1)).num]); omega
      · simp
    · simp
/-- A complete statement goes on behind its beginning. -/
theorem stmtP_gt {xs : List Lx} {k : Nat} (h : (stmtP xs k).2.2 = true) : k < (stmtP xs k).2.1 := by
  have hge := readNums_ge xs wordsL (k + 2) []
  unfold stmtP at h ⊢
  by_cases h1 : lxIs (lxAt xs k) 1 speciesW = true
  · rw [if_pos h1] at h ⊢
    by_cases h2 : ((lxAt xs (k + 1)).kind == 1) = true
    · rw [if_pos h2] at h ⊢
      by_cases h3 : (readNums xs wordsL (k + 2) []).2.2 = true
      · rw [if_pos h3] at h ⊢
        simp only at h ⊢
        rw [if_pos h]
        omega
      · rw [if_neg h3] at h; cases h
    · rw [if_neg h2] at h; cases h
  · rw [if_neg h1] at h; cases h
theorem stmtP_in {xs : List Lx} (he : LxEnds xs) {k : Nat} (hk : k < xs.length) : (stmtP xs k).2.1 < xs.length := by
  unfold stmtP
  by_cases h1 : lxIs (lxAt xs k) 1 speciesW = true
  · rw [if_pos h1]
    have hk1 := lxEnds_next he hk (by rw [lxIs_kind h1]; decide)
    by_cases h2 : ((lxAt xs (k + 1)).kind == 1) = true
    · rw [if_pos h2]
      have hk2 := lxEnds_next he hk1 (by rw [beq_iff_eq.1 h2]; decide)
      have hin := readNums_in he wordsL (k + 2) [] hk2
      by_cases h3 : (readNums xs wordsL (k + 2) []).2.2 = true
      · rw [if_pos h3]
        simp only
        by_cases h4 : lxIs (lxAt xs (readNums xs wordsL (k + 2) []).2.1) 3 [59] = true
        · rw [if_pos h4]
          exact lxEnds_next he hin (by rw [lxIs_kind h4]; decide)
        · rw [if_neg h4]; exact hin
      · rw [if_neg h3]; exact hin
    · rw [if_neg h2]; exact hk1
  · rw [if_neg h1]; exact hk
theorem lxAt_text {xs : List Lx} {M : Nat} (h : ∀ x ∈ xs, x.text.length ≤ M) (k : Nat) : (lxAt xs k).text.length ≤ M := by
  rw [lxAt]
  cases hx : xs[k]? with
  | none => exact Nat.zero_le _
  | some x => exact h x (List.mem_of_getElem? hx)
theorem stmtP_name {xs : List Lx} {M : Nat} (h : ∀ x ∈ xs, x.text.length ≤ M) (k : Nat) : (stmtP xs k).1.name.length ≤ M := by
  unfold stmtP
  split
  · split
    · split
      · exact lxAt_text h _
      · exact Nat.zero_le _
    · exact Nat.zero_le _
  · exact Nat.zero_le _

end Saw
