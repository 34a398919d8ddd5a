/-
  The plain scan: what a lexeme at the head of a text is, and the list of a text's lexemes.
-/
import Derived.Test.YtadflenmdfcflaaDoorPlain
namespace Saw

def lxEnd (pos : Int) : Lx := ⟨0, [], 0, pos⟩

/-- The lexemes of a text that begins at an offset, with neither a blank nor a remark at its head; or an error and its offset. -/
def scanQ : Nat → List UInt8 → Int → List Lx × Int × Int
  | 0, _, _ => ([], 0, 0)
  | _ + 1, [], pos => ([lxEnd pos], 0, 0)
  | n + 1, c :: r, pos =>
    if (readP (c :: r) pos).2 = 0 then
      (if (scanQ n ((c :: r).drop ((readP (c :: r) pos).1.text.length + skipN false ((c :: r).drop (readP (c :: r) pos).1.text.length))) (pos + ((readP (c :: r) pos).1.text.length + skipN false ((c :: r).drop (readP (c :: r) pos).1.text.length) : Nat))).2.1 = 0 then
        ((readP (c :: r) pos).1 :: (scanQ n ((c :: r).drop ((readP (c :: r) pos).1.text.length + skipN false ((c :: r).drop (readP (c :: r) pos).1.text.length))) (pos + ((readP (c :: r) pos).1.text.length + skipN false ((c :: r).drop (readP (c :: r) pos).1.text.length) : Nat))).1, 0, 0)
      else scanQ n ((c :: r).drop ((readP (c :: r) pos).1.text.length + skipN false ((c :: r).drop (readP (c :: r) pos).1.text.length))) (pos + ((readP (c :: r) pos).1.text.length + skipN false ((c :: r).drop (readP (c :: r) pos).1.text.length) : Nat)))
    else ([], (readP (c :: r) pos).2, pos)

/-- Lexemes put ahead of a result. -/
def lxAhead (xs : List Lx) (y : List Lx × Int × Int) : List Lx × Int × Int := if y.2.1 = 0 then (xs ++ y.1, 0, 0) else y

def scanR (l : List UInt8) (pos : Int) : List Lx × Int × Int := scanQ (l.length + 1) l pos
/-- The scan of a text. -/
def scanP (l : List UInt8) : List Lx × Int × Int := if 8000 < l.length then ([], 4, 0) else scanR (l.drop (skipN false l)) (skipN false l)

theorem spanN_pos (p : Int → Bool) (c : UInt8) (r : List UInt8) (h : p c.toNat = true) : 0 < spanN p (c :: r) := by
  simp [spanN, h]

/-- The lexeme that is read is a head of the text, and not empty. -/
theorem readP_text (l : List UInt8) (pos : Int) (h : (readP l pos).2 = 0) :
    0 < (readP l pos).1.text.length ∧ (readP l pos).1.text = l.take (readP l pos).1.text.length ∧ (readP l pos).1.off = pos ∧ (readP l pos).1.kind ≠ 0 := by
  cases l with
  | nil => simp [readP] at h
  | cons c r =>
    rw [readP] at h ⊢
    by_cases hc : letI' c.toNat = true
    · simp only [hc, if_true] at h ⊢
      by_cases h16 : 16 < spanN partI (c :: r)
      · simp only [h16, if_true] at h; omega
      · simp only [h16, if_false] at h ⊢
        have h1 := spanN_pos partI c r (by simp [partI, hc])
        have h2 := spanN_le partI (c :: r)
        have h3 : ((c :: r).take (spanN partI (c :: r))).length = spanN partI (c :: r) := by rw [List.length_take]; omega
        refine ⟨by rw [h3]; exact h1, by rw [h3], by simp, by simp⟩
    · simp only [hc] at h ⊢
      by_cases hd : digI c.toNat = true
      · simp only [hd, if_true] at h ⊢
        by_cases hv : (valueP ((c :: r).take (spanN digI (c :: r)))).2 = 0
        · simp only [hv, if_true] at h ⊢
          have h1 := spanN_pos digI c r hd
          have h2 := spanN_le digI (c :: r)
          have h3 : ((c :: r).take (spanN digI (c :: r))).length = spanN digI (c :: r) := by rw [List.length_take]; omega
          exact ⟨by simp only [Bool.false_eq_true, if_false]; rw [h3]; exact h1, by simp only [Bool.false_eq_true, if_false]; rw [h3], by simp, by simp⟩
        · simp only [hv, if_false] at h
          exact absurd h hv
      · simp only [hd] at h ⊢
        by_cases h2 : 2 ≤ (c :: r).length ∧ isMarkP ((c :: r).take 2) = true
        · simp only [h2, and_self, if_true] at h ⊢
          have : ((c :: r).take 2).length = 2 := by rw [List.length_take]; omega
          exact ⟨by simp only [Bool.false_eq_true, if_false]; rw [this]; omega, by simp only [Bool.false_eq_true, if_false]; rw [this], by simp, by simp⟩
        · simp only [h2, if_false] at h ⊢
          by_cases h1 : isMarkP ((c :: r).take 1) = true
          · simp only [h1, if_true]
            exact ⟨by simp, by simp, by simp, by simp⟩
          · simp only [h1] at h
            simp at h

theorem scanQ_fuel : ∀ (n m : Nat) (l : List UInt8) (pos : Int), l.length < n → l.length < m → scanQ n l pos = scanQ m l pos
  | 0, _, _, _, h, _ => absurd h (by omega)
  | _ + 1, 0, _, _, _, h => absurd h (by omega)
  | _ + 1, _ + 1, [], _, _, _ => rfl
  | n + 1, m + 1, c :: r, pos, hn, hm => by
    rw [scanQ, scanQ]
    by_cases h : (readP (c :: r) pos).2 = 0
    · rw [if_pos h, if_pos h]
      have ht := (readP_text _ _ h).1
      have e := scanQ_fuel n m ((c :: r).drop ((readP (c :: r) pos).1.text.length + skipN false ((c :: r).drop (readP (c :: r) pos).1.text.length))) (pos + ((readP (c :: r) pos).1.text.length + skipN false ((c :: r).drop (readP (c :: r) pos).1.text.length) : Nat))
        (by rw [List.length_drop]; simp only [List.length_cons] at hn ⊢; omega) (by rw [List.length_drop]; simp only [List.length_cons] at hm ⊢; omega)
      rw [e]
    · rw [if_neg h, if_neg h]

theorem scanR_nil (pos : Int) : scanR [] pos = ([lxEnd pos], 0, 0) := rfl

theorem scanR_err (l : List UInt8) (pos : Int) (hl : l ≠ []) (h : (readP l pos).2 ≠ 0) : scanR l pos = ([], (readP l pos).2, pos) := by
  cases l with
  | nil => exact absurd rfl hl
  | cons c r => rw [scanR, List.length_cons, scanQ, if_neg h]

theorem scanR_ok (l : List UInt8) (pos : Int) (hl : l ≠ []) (h : (readP l pos).2 = 0) (m k : Nat) (hm : (readP l pos).1.text.length = m) (hk : skipN false (l.drop m) = k) :
    scanR l pos = lxAhead [(readP l pos).1] (scanR (l.drop (m + k)) (pos + (m + k : Nat))) := by
  subst hm hk
  cases l with
  | nil => exact absurd rfl hl
  | cons c r =>
    have ht := (readP_text _ _ h).1
    rw [scanR, List.length_cons, scanQ, if_pos h]
    rw [scanQ_fuel (r.length + 1) (((c :: r).drop ((readP (c :: r) pos).1.text.length + skipN false ((c :: r).drop (readP (c :: r) pos).1.text.length))).length + 1) _ _
      (by rw [List.length_drop]; simp only [List.length_cons]; omega) (by omega)]
    rfl

theorem lxAhead_nil (y : List Lx × Int × Int) (h : y.2.1 = 0 → y.2.2 = 0) : lxAhead [] y = y := by
  unfold lxAhead
  split
  · rename_i h0
    obtain ⟨a, b, c⟩ := y
    simp only at h0 h
    simp [h0, h h0]
  · rfl
theorem lxAhead_lxAhead (xs ys : List Lx) (y : List Lx × Int × Int) : lxAhead xs (lxAhead ys y) = lxAhead (xs ++ ys) y := by
  unfold lxAhead
  by_cases h : y.2.1 = 0 <;> simp [h]

theorem scanQ_zero : ∀ (n : Nat) (l : List UInt8) (pos : Int), (scanQ n l pos).2.1 = 0 → (scanQ n l pos).2.2 = 0
  | 0, _, _, _ => rfl
  | _ + 1, [], _, _ => rfl
  | n + 1, c :: r, pos, h => by
    have ih := scanQ_zero n ((c :: r).drop ((readP (c :: r) pos).1.text.length + skipN false ((c :: r).drop (readP (c :: r) pos).1.text.length))) (pos + ((readP (c :: r) pos).1.text.length + skipN false ((c :: r).drop (readP (c :: r) pos).1.text.length) : Nat))
    rw [scanQ] at h ⊢
    by_cases h0 : (readP (c :: r) pos).2 = 0
    · rw [if_pos h0] at h ⊢
      split
      · rfl
      · rename_i h1
        rw [if_neg h1] at h
        exact absurd h h1
    · rw [if_neg h0] at h
      exact absurd h h0
theorem scanR_zero (l : List UInt8) (pos : Int) (h : (scanR l pos).2.1 = 0) : (scanR l pos).2.2 = 0 := scanQ_zero _ _ _ h

end Saw
