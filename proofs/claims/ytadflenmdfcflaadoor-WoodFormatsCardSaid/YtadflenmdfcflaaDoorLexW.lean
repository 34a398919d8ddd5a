/-
  Plain laws of the scan: how many lexemes there are, how long their texts, where the end stands.
-/
import Derived.Test.YtadflenmdfcflaaDoorLexV
namespace Saw

theorem scanS_size (n : Nat) : ∀ (l : List UInt8) (pos : Int), l.length ≤ n → (scanS l pos).1.length ≤ l.length + 1 ∧ ∀ x ∈ (scanS l pos).1, x.text.length ≤ l.length := by
  induction n with
  | zero =>
    intro l pos hn
    have : l = [] := List.eq_nil_of_length_eq_zero (by omega)
    subst this
    rw [scanS_end [] _ rfl]
    exact ⟨by simp, by intro x hx; rw [List.mem_singleton] at hx; subst hx; simp [lxEnd]⟩
  | succ n ih =>
    intro l pos hn
    have hle := skipN_le l false
    by_cases hk : skipN false l = l.length
    · rw [scanS_end l _ hk]
      exact ⟨by simp, by intro x hx; rw [List.mem_singleton] at hx; subst hx; simp [lxEnd]⟩
    · have hlt : skipN false l < l.length := by omega
      by_cases he : (readP (l.drop (skipN false l)) (pos + skipN false l)).2 = 0
      · have ht := readP_text _ _ he
        have hlen := readP_len _ _ he
        rw [List.length_drop] at hlen
        have hs := scanS_ok l pos _ rfl hlt he _ rfl
        obtain ⟨x, hx⟩ : ∃ x, (readP (l.drop (skipN false l)) (pos + skipN false l)).1 = x := ⟨_, rfl⟩
        rw [hx] at hs ht hlen
        have hi := ih (l.drop (skipN false l + x.text.length)) (pos + skipN false l + x.text.length) (by rw [List.length_drop]; omega)
        rw [List.length_drop] at hi
        rw [hs]
        unfold lxAhead
        split
        · refine ⟨?_, fun z hz => ?_⟩
          · simp only [List.length_append, List.length_cons, List.length_nil]; omega
          · rcases List.mem_cons.1 hz with rfl | hz
            · omega
            · have := hi.2 z hz; omega
        · refine ⟨by omega, fun z hz => ?_⟩
          have := hi.2 z hz; omega
      · rw [scanS_err l pos _ rfl hlt he]
        exact ⟨by simp, by simp⟩

/-- The lexemes of a text without an error. -/
theorem scanP_good (l : List UInt8) (h : (scanP l).2.1 = 0) : l.length ≤ 8000 ∧ (scanP l).2.2 = 0 ∧ (∃ xs, (scanP l).1 = xs ++ [lxEnd l.length] ∧ ∀ x ∈ xs, x.kind ≠ 0) ∧ (scanP l).1.length ≤ 8001 ∧ ∀ x ∈ (scanP l).1, x.text.length ≤ 8000 := by
  by_cases h8 : 8000 < l.length
  · rw [scanP, if_pos h8] at h; cases h
  · have hl : l.length ≤ 8000 := by omega
    rw [scanP_eq l hl] at h ⊢
    obtain ⟨h1, h2⟩ := scanS_size _ l 0 (Nat.le_refl _)
    have h3 := scanS_ne _ l 0 (Nat.le_refl _) h
    rw [Int.zero_add] at h3
    exact ⟨hl, scanS_zero _ _ h, h3, by omega, fun x hx => by have := h2 x hx; omega⟩
theorem scanP_bad (l : List UInt8) (h : (scanP l).2.1 ≠ 0) : (scanP l).1 = [] := by
  by_cases h8 : 8000 < l.length
  · rw [scanP, if_pos h8]
  · rw [scanP_eq l (by omega)] at h ⊢
    obtain ⟨k, _, h2, _⟩ := scanS_bad _ l 0 (Nat.le_refl _) h
    rw [h2]

end Saw
