/-
  Plain laws of the scan: prefixes, separators, offsets, errors, joined texts, printed texts.
  Plain laws of the scan, continued: errors, offsets, printed texts.
  Plain laws of the scan, continued: a scan from another offset; bounds of the offsets; blanks and remarks.
  Plain laws of the scan: how many lexemes there are, how long their texts, where the end stands.
-/
import Derived.Test.YthineckpociomaaDoorPlainA
namespace Saw

/-- The scan of what begins at an offset, blanks and remarks at its head left out. -/
def scanS (l : List UInt8) (pos : Int) : List Lx × Int × Int := scanR (l.drop (skipN false l)) (pos + skipN false l)

theorem scanS_zero (l : List UInt8) (pos : Int) (h : (scanS l pos).2.1 = 0) : (scanS l pos).2.2 = 0 := scanR_zero _ _ h

theorem scanP_eq (l : List UInt8) (h : l.length ≤ 8000) : scanP l = scanS l 0 := by
  rw [scanP, if_neg (by omega), scanS, Int.zero_add]

theorem skipN_drop : ∀ l : List UInt8, skipN false (l.drop (skipN false l)) = 0 := by
  have h : ∀ (l : List UInt8) (b : Bool), skipN false (l.drop (skipN b l)) = 0 := by
    intro l
    induction l with
    | nil => intro b; cases b <;> rfl
    | cons c r ih =>
      intro b
      cases b
      · by_cases h1 : c.toNat = 32 ∨ c.toNat = 10
        · rw [skipN, if_pos h1, List.drop_succ_cons]; exact ih false
        · by_cases h2 : c.toNat = 35
          · rw [skipN, if_neg h1, if_pos h2, List.drop_succ_cons]; exact ih true
          · rw [skipN, if_neg h1, if_neg h2, List.drop_zero, skipN, if_neg h1, if_neg h2]
      · by_cases h1 : c.toNat = 10
        · rw [skipN, if_pos h1, List.drop_succ_cons]; exact ih false
        · rw [skipN, if_neg h1, List.drop_succ_cons]; exact ih true
  exact fun l => h l false

theorem scanR_step (l : List UInt8) (pos : Int) (hl : l ≠ []) (h : (readP l pos).2 = 0) :
    scanR l pos = lxAhead [(readP l pos).1] (scanS (l.drop (readP l pos).1.text.length) (pos + (readP l pos).1.text.length)) := by
  rw [scanR_ok l pos hl h _ _ rfl rfl, scanS, List.drop_drop]
  congr 2
  omega

/-- What is read does not hang on the offset, but for the offset itself. -/
theorem readP_off (l : List UInt8) (p q : Int) : (readP l q).2 = (readP l p).2 ∧ ((readP l p).2 = 0 → (readP l q).1 = { (readP l p).1 with off := q }) := by
  cases l with
  | nil => simp [readP]
  | cons c r =>
    rw [readP, readP]
    simp only
    split
    · split <;> simp
    · split
      · split
        · simp
        · rename_i h; simp only [true_and]; intro h'; exact absurd h' h
      · split
        · simp
        · split <;> simp

/-- A head of a text. -/
theorem spanN_take (p : Int → Bool) : ∀ (l : List UInt8) (n : Nat), spanN p (l.take n) = min (spanN p l) n
  | [], n => by simp [spanN]
  | c :: r, 0 => by simp [spanN]
  | c :: r, n + 1 => by
    rw [List.take_succ_cons, spanN, spanN, spanN_take p r n]
    split <;> omega
theorem skipN_take : ∀ (l : List UInt8) (b : Bool) (n : Nat), skipN b (l.take n) = min (skipN b l) n
  | [], b, n => by cases b <;> simp [skipN]
  | c :: r, b, 0 => by cases b <;> simp [skipN]
  | c :: r, b, n + 1 => by
    rw [List.take_succ_cons]
    have h1 := skipN_take r true n
    have h2 := skipN_take r false n
    cases b
    · rw [skipN, skipN]
      split
      · omega
      · split <;> omega
    · rw [skipN, skipN]
      split <;> omega

theorem take_take_le (l : List UInt8) (i n : Nat) (h : i ≤ n) : (l.take n).take i = l.take i := by
  rw [List.take_take, Nat.min_eq_left h]

theorem readP_take (l : List UInt8) (pos : Int) (n : Nat) (h : (readP l pos).2 = 0) (hn : (readP l pos).1.text.length ≤ n) : readP (l.take n) pos = readP l pos := by
  have hpos := (readP_text l pos h).1
  cases l with
  | nil => simp [readP] at h
  | cons c r =>
    obtain ⟨m, rfl⟩ : ∃ m, n = m + 1 := ⟨n - 1, by omega⟩
    have et : (c :: r).take (m + 1) = c :: r.take m := List.take_succ_cons
    have esp : ∀ p, spanN p (c :: r.take m) = min (spanN p (c :: r)) (m + 1) := fun p => by rw [← et, spanN_take]
    rw [et]
    rw [readP] at h hn ⊢
    rw [readP]
    by_cases hc : letI' c.toNat = true
    · simp only [hc, if_true] at h hn ⊢
      by_cases h16 : 16 < spanN partI (c :: r)
      · simp only [h16, if_true] at h; omega
      · simp only [h16, if_false] at h hn ⊢
        have h2 := spanN_le partI (c :: r)
        rw [List.length_take] at hn
        have e : spanN partI (c :: r.take m) = spanN partI (c :: r) := by rw [esp]; omega
        rw [e, if_neg h16, ← et, take_take_le _ _ _ (by omega)]
    · simp only [hc, Bool.false_eq_true, if_false] at h hn ⊢
      by_cases hd : digI c.toNat = true
      · simp only [hd, if_true] at h hn ⊢
        by_cases hv : (valueP ((c :: r).take (spanN digI (c :: r)))).2 = 0
        · simp only [hv, if_true] at h hn ⊢
          have h2 := spanN_le digI (c :: r)
          rw [List.length_take] at hn
          have e : spanN digI (c :: r.take m) = spanN digI (c :: r) := by rw [esp]; omega
          rw [e, ← et, take_take_le _ _ _ (by omega), if_pos hv]
        · simp only [hv, if_false] at h
      · simp only [hd, Bool.false_eq_true, if_false] at h hn ⊢
        by_cases h2 : 2 ≤ (c :: r).length ∧ isMarkP ((c :: r).take 2) = true
        · simp only [h2, and_self, if_true] at h hn ⊢
          have hm : 2 ≤ m + 1 := by rw [List.length_take] at hn; omega
          rw [← et, take_take_le _ _ _ hm, if_pos ⟨by rw [List.length_take]; omega, h2.2⟩]
        · simp only [h2, if_false] at h hn ⊢
          have h2' : ¬ (2 ≤ (c :: r.take m).length ∧ isMarkP ((c :: r.take m).take 2) = true) := by
            rintro ⟨ha, hb⟩
            rw [← et] at ha hb
            rw [List.length_take] at ha
            rw [take_take_le _ _ _ (by omega)] at hb
            exact h2 ⟨by omega, hb⟩
          rw [if_neg h2', ← et, take_take_le _ _ _ (by omega)]

/-- A byte that ends every lexeme: a line feed or a blank. -/
def sepB (c : UInt8) : Prop := c.toNat = 10 ∨ c.toNat = 32

theorem sep_not {c : UInt8} (h : sepB c) : partI c.toNat = false ∧ digI c.toNat = false := by
  rcases h with h | h <;> rw [h] <;> decide

theorem spanN_sep (p : Int → Bool) (c : UInt8) (hc : p c.toNat = false) (r : List UInt8) : ∀ l : List UInt8, spanN p (l ++ c :: r) = spanN p l
  | [] => by simp [spanN, hc]
  | d :: l => by rw [List.cons_append, spanN, spanN, spanN_sep p c hc r l]

theorem marks_nosep : ∀ m ∈ marks, ∀ c ∈ m, ¬ (c.toNat = 10 ∨ c.toNat = 32) := by decide

theorem readP_sep (l : List UInt8) (c : UInt8) (r : List UInt8) (pos : Int) (hl : l ≠ []) (hc : sepB c) : readP (l ++ c :: r) pos = readP l pos := by
  obtain ⟨hp, hd⟩ := sep_not hc
  cases l with
  | nil => exact absurd rfl hl
  | cons d q =>
    rw [List.cons_append, readP, readP]
    have e1 : spanN partI (d :: (q ++ c :: r)) = spanN partI (d :: q) := spanN_sep partI c hp r (d :: q)
    have e2 : spanN digI (d :: (q ++ c :: r)) = spanN digI (d :: q) := spanN_sep digI c hd r (d :: q)
    have tk : ∀ n, n ≤ (d :: q).length → (d :: (q ++ c :: r)).take n = (d :: q).take n := fun n hn => by
      rw [← List.cons_append, List.take_append_of_le_length hn]
    rw [e1, e2, tk _ (spanN_le _ _), tk _ (spanN_le _ _), tk 1 (by simp)]
    have e3 : (2 ≤ (d :: (q ++ c :: r)).length ∧ isMarkP ((d :: (q ++ c :: r)).take 2) = true) ↔ (2 ≤ (d :: q).length ∧ isMarkP ((d :: q).take 2) = true) := by
      by_cases hq : 2 ≤ (d :: q).length
      · rw [tk 2 hq]
        simp only [hq, true_and]
        constructor
        · exact fun h => h.2
        · exact fun h => ⟨by simp at hq ⊢; omega, h⟩
      · have hq0 : q = [] := by
          cases q with
          | nil => rfl
          | cons _ _ => simp at hq
        subst hq0
        constructor
        · rintro ⟨_, h⟩
          simp only [isMarkP, List.contains_iff_mem] at h
          exact absurd hc (marks_nosep _ h c (by simp))
        · rintro ⟨h, _⟩
          simp at h
    by_cases hc1 : letI' d.toNat = true
    · simp only [hc1, if_true]
    · simp only [hc1, Bool.false_eq_true, if_false]
      by_cases hd1 : digI d.toNat = true
      · simp only [hd1, if_true]
      · simp only [hd1, Bool.false_eq_true, if_false]
        by_cases h2 : 2 ≤ (d :: q).length ∧ isMarkP ((d :: q).take 2) = true
        · rw [if_pos (e3.2 h2), if_pos h2, tk 2 h2.1]
        · rw [if_neg (fun h => h2 (e3.1 h)), if_neg h2]

theorem readP_skip (l : List UInt8) (pos : Int) (h : (readP l pos).2 = 0) : skipN false l = 0 := by
  cases l with
  | nil => rfl
  | cons c r =>
    rw [skipN]
    by_cases h1 : c.toNat = 32 ∨ c.toNat = 10 ∨ c.toNat = 35
    · exfalso
      have hm : ∀ m ∈ marks, ∀ c ∈ m, ¬ (c.toNat = 32 ∨ c.toNat = 10 ∨ c.toNat = 35) := by decide
      have hp : letI' c.toNat = false ∧ digI c.toNat = false := by
        rcases h1 with h1 | h1 | h1 <;> rw [h1] <;> decide
      rw [readP] at h
      simp only [hp.1, hp.2, Bool.false_eq_true, if_false] at h
      have h2 : ¬ (2 ≤ (c :: r).length ∧ isMarkP ((c :: r).take 2) = true) := by
        rintro ⟨_, hb⟩
        simp only [isMarkP, List.contains_iff_mem] at hb
        exact hm _ hb c (by simp) h1
      have h3 : ¬ isMarkP ((c :: r).take 1) = true := by
        intro hb
        simp only [isMarkP, List.contains_iff_mem] at hb
        exact hm _ hb c (by simp) h1
      rw [if_neg h2, if_neg h3] at h
      simp at h
    · rw [if_neg (by omega), if_neg (by omega)]

theorem skipN_app : ∀ (l : List UInt8) (b : Bool) (r : List UInt8), skipN b l < l.length → skipN b (l ++ r) = skipN b l
  | [], b, r, h => by simp at h
  | c :: l, b, r, h => by
    have h1 := skipN_app l true r
    have h2 := skipN_app l false r
    rw [List.cons_append]
    cases b
    · rw [skipN] at h ⊢
      rw [skipN]
      simp only [List.length_cons] at h
      split
      · rename_i hc; rw [if_pos hc] at h; rw [h2 (by omega)]
      · rename_i hc
        rw [if_neg hc] at h
        split
        · rename_i hd; rw [if_pos hd] at h; rw [h1 (by omega)]
        · rfl
    · rw [skipN] at h ⊢
      rw [skipN]
      simp only [List.length_cons] at h
      split
      · rename_i hc; rw [if_pos hc] at h; rw [h2 (by omega)]
      · rename_i hc; rw [if_neg hc] at h; rw [h1 (by omega)]
theorem skipN_all10 : ∀ (l : List UInt8) (b : Bool) (r : List UInt8), skipN b l = l.length → skipN b (l ++ 10 :: r) = l.length + 1 + skipN false r
  | [], b, r, _ => by cases b <;> simp [skipN] <;> omega
  | c :: l, b, r, h => by
    have h1 := skipN_all10 l true r
    have h2 := skipN_all10 l false r
    rw [List.cons_append]
    cases b
    · rw [skipN] at h ⊢
      simp only [List.length_cons] at h ⊢
      split
      · rename_i hc; rw [if_pos hc] at h; rw [h2 (by omega)]; omega
      · rename_i hc
        rw [if_neg hc] at h
        split
        · rename_i hd; rw [if_pos hd] at h; rw [h1 (by omega)]; omega
        · rename_i hd; rw [if_neg hd] at h; omega
    · rw [skipN] at h ⊢
      simp only [List.length_cons] at h ⊢
      split
      · rename_i hc; rw [if_pos hc] at h; rw [h2 (by omega)]; omega
      · rename_i hc; rw [if_neg hc] at h; rw [h1 (by omega)]; omega

/-- The scan from an offset on: all is skipped, or an error, or a lexeme and the rest. -/
theorem scanS_end (l : List UInt8) (pos : Int) (h : skipN false l = l.length) : scanS l pos = ([lxEnd (pos + l.length)], 0, 0) := by
  rw [scanS, h, List.drop_length, scanR_nil]
theorem scanS_err (l : List UInt8) (pos : Int) (k : Nat) (hk : skipN false l = k) (hl : k < l.length) (h : (readP (l.drop k) (pos + k)).2 ≠ 0) :
    scanS l pos = ([], (readP (l.drop k) (pos + k)).2, pos + k) := by
  subst hk
  exact scanR_err _ _ (by intro h0; rw [List.drop_eq_nil_iff] at h0; omega) h
theorem scanS_ok (l : List UInt8) (pos : Int) (k : Nat) (hk : skipN false l = k) (hl : k < l.length) (h : (readP (l.drop k) (pos + k)).2 = 0) (m : Nat) (hm : (readP (l.drop k) (pos + k)).1.text.length = m) :
    scanS l pos = lxAhead [(readP (l.drop k) (pos + k)).1] (scanS (l.drop (k + m)) (pos + k + m)) := by
  subst hk hm
  rw [scanS, scanR_step _ _ (by intro h0; rw [List.drop_eq_nil_iff] at h0; omega) h, List.drop_drop]

theorem readP_len (l : List UInt8) (pos : Int) (h : (readP l pos).2 = 0) : (readP l pos).1.text.length ≤ l.length := by
  rw [(readP_text l pos h).2.1]
  exact List.length_take_le' _ _

/-- The end of a scan without an error is there. -/
theorem scanS_ne (n : Nat) : ∀ (l : List UInt8) (pos : Int), l.length ≤ n → (scanS l pos).2.1 = 0 → ∃ xs, (scanS l pos).1 = xs ++ [lxEnd (pos + l.length)] ∧ ∀ x ∈ xs, x.kind ≠ 0 := by
  induction n with
  | zero =>
    intro l pos hn _
    have : l = [] := List.eq_nil_of_length_eq_zero (by omega)
    subst this
    exact ⟨[], rfl, by simp⟩
  | succ n ih =>
    intro l pos hn h
    have hle := skipN_le l false
    by_cases hk : skipN false l = l.length
    · rw [scanS_end l pos hk]
      exact ⟨[], rfl, by simp⟩
    · have hlt : skipN false l < l.length := by omega
      by_cases he : (readP (l.drop (skipN false l)) (pos + skipN false l)).2 = 0
      · have ht := readP_text _ _ he
        have hlen := readP_len _ _ he
        rw [List.length_drop] at hlen
        rw [scanS_ok l pos _ rfl hlt he _ rfl] at h ⊢
        have h' : (scanS (l.drop (skipN false l + (readP (l.drop (skipN false l)) (pos + skipN false l)).1.text.length)) (pos + skipN false l + (readP (l.drop (skipN false l)) (pos + skipN false l)).1.text.length)).2.1 = 0 := by
          unfold lxAhead at h
          split at h
          · assumption
          · exact h
        obtain ⟨xs, hx, hxs⟩ := ih _ _ (by rw [List.length_drop]; omega) h'
        refine ⟨(readP (l.drop (skipN false l)) (pos + skipN false l)).1 :: xs, ?_, ?_⟩
        · rw [lxAhead, if_pos h', hx, List.length_drop]
          simp only [List.cons_append, List.nil_append, List.cons.injEq, true_and, List.append_cancel_left_eq, and_true]
          congr 1
          omega
        · intro x hx
          rcases List.mem_cons.1 hx with rfl | hx
          · exact ht.2.2.2
          · exact hxs x hx
      · rw [scanS_err l pos _ rfl hlt he] at h
        exact absurd h he

/-- Two texts with a line feed between them. -/
theorem scanS_join (n : Nat) : ∀ (l r : List UInt8) (pos : Int), l.length ≤ n →
    scanS (l ++ 10 :: r) pos = if (scanS l pos).2.1 = 0 then lxAhead (scanS l pos).1.dropLast (scanS r (pos + l.length + 1)) else scanS l pos := by
  induction n with
  | zero =>
    intro l r pos hn
    have : l = [] := List.eq_nil_of_length_eq_zero (by omega)
    subst this
    rw [scanS_end [] pos rfl, if_pos rfl, List.dropLast_singleton, lxAhead_nil _ (scanS_zero _ _)]
    rw [scanS, scanS, List.nil_append]
    have : skipN false (10 :: r) = skipN false r + 1 := by rw [skipN]; simp
    rw [this, List.drop_succ_cons]
    congr 1
    simp; omega
  | succ n ih =>
    intro l r pos hn
    have hle := skipN_le l false
    by_cases hk : skipN false l = l.length
    · rw [scanS_end l pos hk, if_pos rfl, List.dropLast_singleton, lxAhead_nil _ (scanS_zero _ _)]
      rw [scanS, scanS, skipN_all10 l false r hk]
      rw [show (l ++ 10 :: r).drop (l.length + 1 + skipN false r) = r.drop (skipN false r) by
        rw [Nat.add_assoc, List.drop_append, List.drop_eq_nil_of_le (by omega), List.nil_append, show l.length + (1 + skipN false r) - l.length = skipN false r + 1 by omega, List.drop_succ_cons]]
      congr 1
      omega
    · have hlt : skipN false l < l.length := by omega
      have e0 : skipN false (l ++ 10 :: r) = skipN false l := skipN_app l false _ hlt
      have ed : ∀ i, i ≤ l.length → (l ++ 10 :: r).drop i = l.drop i ++ 10 :: r := fun i hi => List.drop_append_of_le_length hi
      have hne : l.drop (skipN false l) ≠ [] := by intro h0; rw [List.drop_eq_nil_iff] at h0; omega
      have er : readP ((l ++ 10 :: r).drop (skipN false l)) (pos + skipN false l) = readP (l.drop (skipN false l)) (pos + skipN false l) := by
        rw [ed _ hle, readP_sep _ _ _ _ hne (.inl rfl)]
      by_cases he : (readP (l.drop (skipN false l)) (pos + skipN false l)).2 = 0
      · have ht := readP_text _ _ he
        have hlen := readP_len _ _ he
        rw [List.length_drop] at hlen
        rw [scanS_ok (l ++ 10 :: r) pos _ e0 (by simp; omega) (by rw [er]; exact he) _ (by rw [er]), er, ed _ (by omega), ih _ _ _ (by rw [List.length_drop]; omega), scanS_ok l pos _ rfl hlt he _ rfl]
        obtain ⟨y, hy⟩ : ∃ y, scanS (l.drop (skipN false l + (readP (l.drop (skipN false l)) (pos + skipN false l)).1.text.length)) (pos + skipN false l + (readP (l.drop (skipN false l)) (pos + skipN false l)).1.text.length) = y := ⟨_, rfl⟩
        rw [hy]
        by_cases h0 : y.2.1 = 0
        · obtain ⟨xs, hx, _⟩ := scanS_ne _ _ _ (Nat.le_refl _) (show (scanS (l.drop (skipN false l + (readP (l.drop (skipN false l)) (pos + skipN false l)).1.text.length)) (pos + skipN false l + (readP (l.drop (skipN false l)) (pos + skipN false l)).1.text.length)).2.1 = 0 by rw [hy]; exact h0)
          rw [hy] at hx
          have hxy : lxAhead [(readP (l.drop (skipN false l)) (pos + skipN false l)).1] y = ((readP (l.drop (skipN false l)) (pos + skipN false l)).1 :: y.1, 0, 0) := by rw [lxAhead, if_pos h0]; rfl
          rw [if_pos h0, lxAhead_lxAhead, hxy, if_pos rfl, hx, List.length_drop]
          congr 1
          · simp [List.dropLast_cons_of_ne_nil]
          · congr 1
            omega
        · rw [if_neg h0]
          have : lxAhead [(readP (l.drop (skipN false l)) (pos + skipN false l)).1] y = y := by rw [lxAhead, if_neg h0]
          rw [this, if_neg h0]
      · rw [scanS_err (l ++ 10 :: r) pos _ e0 (by simp; omega) (by rw [er]; exact he), er, scanS_err l pos _ rfl hlt he, if_neg he]

end Saw

namespace Saw

/-- The three errors of reading. -/
theorem readP_errs (l : List UInt8) (pos : Int) : (readP l pos).2 = 0 ∨ (readP l pos).2 = 5 ∨ (readP l pos).2 = 6 ∨ (readP l pos).2 = 9 := by
  cases l with
  | nil => simp [readP]
  | cons c r =>
    rw [readP]
    split
    · split <;> simp
    · split
      · split
        · simp
        · rename_i h
          simp only
          unfold valueP at h ⊢
          split
          · simp
          · cases hv : valN 0 ((c :: r).take (spanN digI (c :: r))) <;> simp [valPair]
      · split
        · simp
        · split <;> simp

/-- An error: its offset, what begins there, what stands ahead of it. -/
theorem scanS_bad (n : Nat) : ∀ (l : List UInt8) (pos : Int), l.length ≤ n → (scanS l pos).2.1 ≠ 0 →
    ∃ k : Nat, k < l.length ∧ (scanS l pos) = ([], (scanS l pos).2.1, pos + k) ∧ skipN false (l.drop k) = 0 ∧ (readP (l.drop k) 0).2 = (scanS l pos).2.1 ∧ (scanS (l.take k) pos).2.1 = 0 := by
  induction n with
  | zero =>
    intro l pos hn h
    have : l = [] := List.eq_nil_of_length_eq_zero (by omega)
    subst this
    exact absurd rfl h
  | succ n ih =>
    intro l pos hn h
    have hle := skipN_le l false
    by_cases hk : skipN false l = l.length
    · rw [scanS_end l pos hk] at h
      exact absurd rfl h
    · have hlt : skipN false l < l.length := by omega
      by_cases he : (readP (l.drop (skipN false l)) (pos + skipN false l)).2 = 0
      · have ht := readP_text _ _ he
        have hlen := readP_len _ _ he
        rw [List.length_drop] at hlen
        obtain ⟨m, hm⟩ : ∃ m, (readP (l.drop (skipN false l)) (pos + skipN false l)).1.text.length = m := ⟨_, rfl⟩
        rw [hm] at hlen ht
        have hs := scanS_ok l pos _ rfl hlt he m hm
        obtain ⟨y, hy⟩ : ∃ y, scanS (l.drop (skipN false l + m)) (pos + skipN false l + m) = y := ⟨_, rfl⟩
        rw [hy] at hs
        have hy0 : y.2.1 ≠ 0 := by
          intro h0
          apply h
          rw [hs, lxAhead, if_pos h0]
        have hsy : scanS l pos = y := by rw [hs, lxAhead, if_neg hy0]
        obtain ⟨k, hk1, hk2, hk3, hk4, hk5⟩ := ih (l.drop (skipN false l + m)) (pos + skipN false l + m) (by rw [List.length_drop]; omega) (by rw [hy]; exact hy0)
        rw [hy] at hk2 hk4
        rw [List.length_drop] at hk1
        refine ⟨skipN false l + m + k, by omega, ?_, ?_, ?_, ?_⟩
        · rw [hsy, hk2]
          simp only [Prod.mk.injEq, true_and]
          omega
        · rw [← List.drop_drop]; exact hk3
        · rw [← List.drop_drop, hsy]; exact hk4
        · have e0 : skipN false (l.take (skipN false l + m + k)) = skipN false l := by rw [skipN_take]; omega
          have er : readP ((l.take (skipN false l + m + k)).drop (skipN false l)) (pos + skipN false l) = readP (l.drop (skipN false l)) (pos + skipN false l) := by
            rw [List.drop_take]
            exact readP_take _ _ _ he (by rw [hm]; omega)
          have ed : (l.take (skipN false l + m + k)).drop (skipN false l + m) = (l.drop (skipN false l + m)).take k := by
            rw [List.drop_take, show skipN false l + m + k - (skipN false l + m) = k by omega]
          rw [scanS_ok (l.take (skipN false l + m + k)) pos _ e0 (by rw [List.length_take]; omega) (by rw [er]; exact he) m (by rw [er]; exact hm), ed]
          rw [lxAhead, if_pos hk5]
      · have hs := scanS_err l pos _ rfl hlt he
        refine ⟨skipN false l, hlt, by rw [hs], skipN_drop l, ?_, ?_⟩
        · rw [hs]
          exact (readP_off _ _ _).1
        · rw [scanS_end _ _ (by rw [skipN_take, List.length_take]; omega)]

theorem scanS_at0 (l : List UInt8) (h0 : skipN false l = 0) (hl : l ≠ []) (he : (readP l 0).2 ≠ 0) : scanS l 0 = ([], (readP l 0).2, 0) := by
  have hp : 0 < l.length := List.length_pos_iff.2 hl
  have h := scanS_err l 0 0 h0 hp (by simpa using he)
  simpa using h

theorem scanS_errs (n : Nat) : ∀ (l : List UInt8) (pos : Int), l.length ≤ n → (scanS l pos).2.1 = 0 ∨ (scanS l pos).2.1 = 5 ∨ (scanS l pos).2.1 = 6 ∨ (scanS l pos).2.1 = 9 := by
  intro l pos hn
  by_cases h : (scanS l pos).2.1 = 0
  · exact .inl h
  · obtain ⟨k, _, _, _, hk4, _⟩ := scanS_bad n l pos hn h
    rw [← hk4]
    exact readP_errs _ _

/-- The lexemes of a text stand at their offsets, in order, with blanks and remarks between them. -/
def offsOK (s : List UInt8) : Nat → List Lx → Prop
  | _, [] => False
  | k, [x] => x.kind = 0 ∧ x.text = [] ∧ x.off = s.length ∧ k ≤ s.length ∧ skipN false (s.drop k) = s.length - k
  | k, x :: y :: r => x.kind ≠ 0 ∧ x.text ≠ [] ∧ ∃ j : Nat, x.off = (k + j : Nat) ∧ skipN false ((s.drop k).take j) = j ∧ k + j + x.text.length ≤ s.length ∧ (s.drop (k + j)).take x.text.length = x.text ∧ offsOK s (k + j + x.text.length) (y :: r)

theorem scanS_offs (n : Nat) : ∀ (s : List UInt8) (k : Nat) (pos : Int), k ≤ s.length → s.length - k ≤ n → pos = k → (scanS (s.drop k) pos).2.1 = 0 → offsOK s k (scanS (s.drop k) pos).1 := by
  induction n with
  | zero =>
    intro s k pos hk hn hp h
    rw [List.drop_eq_nil_of_le (by omega), scanS_end [] pos rfl]
    refine ⟨rfl, rfl, ?_, hk, ?_⟩
    · show pos + (0 : Nat) = _
      omega
    · rw [List.drop_eq_nil_of_le (by omega)]
      show 0 = _
      omega
  | succ n ih =>
    intro s k pos hk hn hp h
    have hle := skipN_le (s.drop k) false
    rw [List.length_drop] at hle
    by_cases hs : skipN false (s.drop k) = (s.drop k).length
    · rw [scanS_end _ pos hs]
      rw [List.length_drop] at hs
      refine ⟨rfl, rfl, ?_, hk, hs⟩
      show pos + ((s.drop k).length : Nat) = _
      rw [List.length_drop]
      omega
    · have hlt : skipN false (s.drop k) < (s.drop k).length := by rw [List.length_drop] at hs ⊢; omega
      by_cases he : (readP ((s.drop k).drop (skipN false (s.drop k))) (pos + skipN false (s.drop k))).2 = 0
      · have ht := readP_text _ _ he
        have hlen := readP_len _ _ he
        rw [List.length_drop, List.length_drop] at hlen
        have hso := scanS_ok (s.drop k) pos _ rfl hlt he _ rfl
        obtain ⟨x, hx⟩ : ∃ x, (readP ((s.drop k).drop (skipN false (s.drop k))) (pos + skipN false (s.drop k))).1 = x := ⟨_, rfl⟩
        obtain ⟨j, hj⟩ : ∃ j, skipN false (s.drop k) = j := ⟨_, rfl⟩
        rw [hx] at hso ht hlen
        rw [hj] at hso ht hlen hlt hle
        rw [List.drop_drop] at hso ht
        obtain ⟨y, hy⟩ : ∃ y, scanS (s.drop (k + (j + x.text.length))) (pos + j + x.text.length) = y := ⟨_, rfl⟩
        have hy0 : y.2.1 = 0 := by
          rw [hso, hy, lxAhead] at h
          split at h
          · assumption
          · exact h
        have hi := ih s (k + j + x.text.length) (pos + j + x.text.length) (by omega) (by omega) (by omega) (by rw [show k + j + x.text.length = k + (j + x.text.length) by omega, hy]; exact hy0)
        rw [show k + j + x.text.length = k + (j + x.text.length) by omega, hy] at hi
        rw [hso, hy, lxAhead, if_pos hy0]
        cases hyl : y.1 with
        | nil => rw [hyl] at hi; exact hi.elim
        | cons z r =>
          rw [hyl] at hi
          refine ⟨ht.2.2.2, ?_, j, ?_, ?_, by omega, ht.2.1.symm, ?_⟩
          · intro h0
            rw [h0] at ht
            exact absurd ht.1 (by simp)
          · rw [ht.2.2.1]; omega
          · rw [skipN_take, hj]; omega
          · rw [show k + j + x.text.length = k + (j + x.text.length) by omega]
            exact hi
      · rw [scanS_err _ pos _ rfl hlt he] at h
        exact absurd h he

/-- A lexeme that is read as itself where its text stands alone. -/
def lexOK (x : Lx) : Prop := x.kind ≠ 0 ∧ ∀ pos, readP x.text pos = ({ x with off := pos }, 0)

theorem readP_lexOK (l : List UInt8) (pos : Int) (h : (readP l pos).2 = 0) : lexOK (readP l pos).1 := by
  have ht := readP_text l pos h
  refine ⟨ht.2.2.2, fun p => ?_⟩
  have h1 := readP_take l pos _ h (Nat.le_refl _)
  rw [← ht.2.1] at h1
  have h2 := readP_off (readP l pos).1.text pos p
  rw [h1] at h2
  have h3 := h2.2 h
  have h4 : (readP (readP l pos).1.text p).2 = 0 := by rw [h2.1]; exact h
  exact Prod.ext h3 h4

/-- All lexemes of a scan but its end are such; their texts and their number are bounded by the text. -/
theorem scanS_lexOK (n : Nat) : ∀ (l : List UInt8) (pos : Int), l.length ≤ n → (scanS l pos).2.1 = 0 →
    ∃ xs, (scanS l pos).1 = xs ++ [lxEnd (pos + l.length)] ∧ (∀ x ∈ xs, lexOK x) ∧ xs.length ≤ (xs.map (·.text)).flatten.length ∧ (xs.map (·.text)).flatten.length ≤ l.length := by
  induction n with
  | zero =>
    intro l pos hn _
    have : l = [] := List.eq_nil_of_length_eq_zero (by omega)
    subst this
    exact ⟨[], rfl, by simp, by simp, by simp⟩
  | succ n ih =>
    intro l pos hn h
    have hle := skipN_le l false
    by_cases hk : skipN false l = l.length
    · rw [scanS_end l pos hk]
      exact ⟨[], rfl, by simp, by simp, by simp⟩
    · have hlt : skipN false l < l.length := by omega
      by_cases he : (readP (l.drop (skipN false l)) (pos + skipN false l)).2 = 0
      · have ht := readP_text _ _ he
        have hlen := readP_len _ _ he
        have hok := readP_lexOK _ _ he
        rw [List.length_drop] at hlen
        have hs := scanS_ok l pos _ rfl hlt he _ rfl
        obtain ⟨x, hx⟩ : ∃ x, (readP (l.drop (skipN false l)) (pos + skipN false l)).1 = x := ⟨_, rfl⟩
        rw [hx] at hs ht hlen hok
        have h' : (scanS (l.drop (skipN false l + x.text.length)) (pos + skipN false l + x.text.length)).2.1 = 0 := by
          rw [hs] at h
          unfold lxAhead at h
          split at h
          · assumption
          · exact h
        obtain ⟨xs, h1, h2, h3, h4⟩ := ih _ _ (by rw [List.length_drop]; omega) h'
        refine ⟨x :: xs, ?_, ?_, ?_, ?_⟩
        · rw [hs, lxAhead, if_pos h', h1, List.length_drop]
          simp only [List.cons_append, List.nil_append, List.cons.injEq, true_and, List.append_cancel_left_eq, and_true]
          congr 1
          omega
        · intro y hy
          rcases List.mem_cons.1 hy with rfl | hy
          · exact hok
          · exact h2 y hy
        · simp only [List.map_cons, List.flatten_cons, List.length_append, List.length_cons]
          omega
        · rw [List.length_drop] at h4
          simp only [List.map_cons, List.flatten_cons, List.length_append]
          omega
      · rw [scanS_err l pos _ rfl hlt he] at h
        exact absurd h he

theorem join_two (x y : List UInt8) (r : List (List UInt8)) : Go.Lib.join (x :: y :: r) [32] = x ++ 32 :: Go.Lib.join (y :: r) [32] := by
  rw [Go.Lib.join_cons, Go.Lib.join_cons]
  simp [Go.Lib.joinTail]

theorem join_len : ∀ r : List (List UInt8), (Go.Lib.join r [32]).length ≤ r.flatten.length + r.length
  | [] => by simp [Go.Lib.join_nil]
  | [x] => by simp [Go.Lib.join_one]
  | x :: y :: r => by
    have h := join_len (y :: r)
    rw [join_two]
    simp only [List.length_append, List.length_cons, List.flatten_cons] at h ⊢
    omega

theorem texts_of (xs : List Lx) (h : ∀ x ∈ xs, x.kind ≠ 0) (p : Int) : texts (xs ++ [lxEnd p]) = xs.map (·.text) := by
  unfold texts
  rw [List.filter_append, List.filter_eq_self.2 (by intro x hx; simpa using h x hx)]
  simp [lxEnd]

/-- A lexeme alone, or ahead of a blank. -/
theorem scanS_one (x : Lx) (h : lexOK x) (pos : Int) : scanS x.text pos = ([{ x with off := pos }, lxEnd (pos + x.text.length)], 0, 0) := by
  have hr := h.2 pos
  have he : (readP x.text pos).2 = 0 := by rw [hr]
  have ht := readP_text _ _ he
  have h0 := readP_skip _ _ he
  rw [hr] at ht
  have hs := scanS_ok x.text pos 0 h0 ht.1 (by simpa using he) x.text.length (by simp [hr])
  rw [hs, Nat.zero_add, List.drop_length, scanS_end [] _ rfl]
  simp [lxAhead, hr]
theorem scanS_two (x : Lx) (h : lexOK x) (r : List UInt8) (pos : Int) : scanS (x.text ++ 32 :: r) pos = lxAhead [{ x with off := pos }] (scanS r (pos + x.text.length + 1)) := by
  have hr := h.2 pos
  have he : (readP x.text pos).2 = 0 := by rw [hr]
  have ht := readP_text _ _ he
  have h0 := readP_skip _ _ he
  rw [hr] at ht
  have hne : x.text ≠ [] := by intro h0; rw [h0] at ht; exact absurd ht.1 (by simp)
  have er : readP (x.text ++ 32 :: r) pos = readP x.text pos := readP_sep _ _ _ _ hne (.inr rfl)
  have e0 : skipN false (x.text ++ 32 :: r) = 0 := by rw [skipN_app _ _ _ (by rw [h0]; exact ht.1), h0]
  have hs := scanS_ok (x.text ++ 32 :: r) pos 0 e0 (by simp; omega) (by simp [er, he]) x.text.length (by simp [er, hr])
  rw [hs, Nat.zero_add, List.drop_left]
  simp only [Int.natCast_zero, Int.add_zero, List.drop_zero, er, hr]
  congr 1
  rw [scanS, scanS]
  have : skipN false (32 :: r) = skipN false r + 1 := by rw [skipN]; simp
  rw [this, List.drop_succ_cons]
  congr 1
  simp; omega

theorem sameP_app : ∀ (a b c d : List Lx), sameP a b = true → sameP c d = true → sameP (a ++ c) (b ++ d) = true
  | [], [], _, _, _, h => h
  | [], _ :: _, _, _, h, _ => by simp [sameP] at h
  | _ :: _, [], _, _, h, _ => by simp [sameP] at h
  | x :: a, y :: b, c, d, h, h' => by
    simp only [sameP, Bool.and_eq_true, List.cons_append] at h ⊢
    exact ⟨h.1, sameP_app a b c d h.2 h'⟩

theorem sameLx_off (x : Lx) (p : Int) : sameLx x { x with off := p } = true := by simp [sameLx]

/-- The texts of lexemes, joined with blanks, are read as the same lexemes. -/
theorem scanS_again : ∀ (xs : List Lx), (∀ x ∈ xs, lexOK x) → ∀ pos : Int, ∃ ys, scanS (Go.Lib.join (xs.map (·.text)) [32]) pos = (ys ++ [lxEnd (pos + (Go.Lib.join (xs.map (·.text)) [32]).length)], 0, 0) ∧ sameP xs ys = true ∧ ys.map (·.text) = xs.map (·.text) ∧ ∀ y ∈ ys, y.kind ≠ 0
  | [], _, pos => ⟨[], by rw [List.map_nil, Go.Lib.join_nil]; exact scanS_end [] pos rfl, rfl, rfl, by simp⟩
  | [x], h, pos => by
    have hx := h x (by simp)
    refine ⟨[{ x with off := pos }], ?_, ?_, rfl, ?_⟩
    · rw [List.map_singleton, Go.Lib.join_one, scanS_one x hx pos]
      rfl
    · simp [sameP, sameLx]
    · intro y hy
      rw [List.mem_singleton] at hy
      subst hy
      exact hx.1
  | x :: y :: r, h, pos => by
    have hx := h x (by simp)
    obtain ⟨ys, h1, h2, h3, h4⟩ := scanS_again (y :: r) (fun z hz => h z (by simp [hz])) (pos + x.text.length + 1)
    refine ⟨{ x with off := pos } :: ys, ?_, ?_, ?_, ?_⟩
    · rw [List.map_cons, List.map_cons, join_two, scanS_two x hx, ← List.map_cons (f := fun z : Lx => z.text), h1, lxAhead, if_pos rfl]
      simp only [List.cons_append, List.nil_append, List.length_append, List.length_cons, Prod.mk.injEq, and_true, List.cons.injEq, true_and, List.append_cancel_left_eq]
      congr 1
      omega
    · simp only [sameP, sameLx_off, Bool.true_and]
      exact h2
    · simp only [List.map_cons] at h3 ⊢
      rw [h3]
    · intro z hz
      rcases List.mem_cons.1 hz with rfl | hz
      · exact hx.1
      · exact h4 z hz

end Saw

namespace Saw

def lxSh (d : Int) (x : Lx) : Lx := { x with off := x.off + d }

theorem scanS_shift (n : Nat) : ∀ (l : List UInt8) (pos d : Int), l.length ≤ n →
    scanS l (pos + d) = if (scanS l pos).2.1 = 0 then ((scanS l pos).1.map (lxSh d), 0, 0) else ([], (scanS l pos).2.1, (scanS l pos).2.2 + d) := by
  induction n with
  | zero =>
    intro l pos d hn
    have : l = [] := List.eq_nil_of_length_eq_zero (by omega)
    subst this
    rw [scanS_end [] _ rfl, scanS_end [] _ rfl, if_pos rfl]
    simp [lxSh, lxEnd]
  | succ n ih =>
    intro l pos d hn
    have hle := skipN_le l false
    by_cases hk : skipN false l = l.length
    · rw [scanS_end l _ hk, scanS_end l _ hk, if_pos rfl]
      simp only [List.map_cons, List.map_nil, lxSh, lxEnd, Prod.mk.injEq, and_true]
      congr 2
      omega
    · have hlt : skipN false l < l.length := by omega
      have ho := readP_off (l.drop (skipN false l)) (pos + skipN false l) (pos + d + skipN false l)
      by_cases he : (readP (l.drop (skipN false l)) (pos + skipN false l)).2 = 0
      · have ht := readP_text _ _ he
        have hlen := readP_len _ _ he
        have h2 := ho.2 he
        rw [List.length_drop] at hlen
        have hs := scanS_ok l pos _ rfl hlt he _ rfl
        obtain ⟨x, hx⟩ : ∃ x, (readP (l.drop (skipN false l)) (pos + skipN false l)).1 = x := ⟨_, rfl⟩
        rw [hx] at hs ht hlen h2
        have hs' := scanS_ok l (pos + d) _ rfl hlt (by rw [ho.1]; exact he) x.text.length (by rw [h2])
        rw [h2, show pos + d + (skipN false l : Int) + (x.text.length : Int) = (pos + skipN false l + x.text.length) + d by omega, ih (l.drop (skipN false l + x.text.length)) (pos + skipN false l + x.text.length) d (by rw [List.length_drop]; omega)] at hs'
        rw [hs', hs]
        obtain ⟨y, hy⟩ : ∃ y, scanS (l.drop (skipN false l + x.text.length)) (pos + skipN false l + x.text.length) = y := ⟨_, rfl⟩
        rw [hy]
        by_cases h0 : y.2.1 = 0
        · have e1 : lxAhead [x] y = (x :: y.1, 0, 0) := by rw [lxAhead, if_pos h0]; rfl
          rw [if_pos h0, e1, if_pos rfl, lxAhead, if_pos rfl]
          simp only [List.cons_append, List.nil_append, List.map_cons, lxSh]
          congr 2
          rw [ht.2.2.1]
          congr 1
          omega
        · have e1 : lxAhead [x] y = y := by rw [lxAhead, if_neg h0]
          rw [if_neg h0, e1, if_neg h0, lxAhead, if_neg h0]
      · rw [scanS_err l pos _ rfl hlt he, if_neg he, scanS_err l (pos + d) _ rfl hlt (by rw [ho.1]; exact he), ho.1]
        simp only [Prod.mk.injEq, true_and]
        omega

theorem scanS_bound (n : Nat) : ∀ (l : List UInt8) (pos : Int), l.length ≤ n → ∀ x ∈ (scanS l pos).1, pos ≤ x.off ∧ x.off ≤ pos + l.length := by
  induction n with
  | zero =>
    intro l pos hn
    have : l = [] := List.eq_nil_of_length_eq_zero (by omega)
    subst this
    rw [scanS_end [] _ rfl]
    intro x hx
    rw [List.mem_singleton] at hx
    subst hx
    simp [lxEnd]
  | succ n ih =>
    intro l pos hn
    have hle := skipN_le l false
    by_cases hk : skipN false l = l.length
    · rw [scanS_end l _ hk]
      intro x hx
      rw [List.mem_singleton] at hx
      subst hx
      simp [lxEnd]
      omega
    · have hlt : skipN false l < l.length := by omega
      by_cases he : (readP (l.drop (skipN false l)) (pos + skipN false l)).2 = 0
      · have ht := readP_text _ _ he
        have hlen := readP_len _ _ he
        rw [List.length_drop] at hlen
        have hs := scanS_ok l pos _ rfl hlt he _ rfl
        obtain ⟨x, hx⟩ : ∃ x, (readP (l.drop (skipN false l)) (pos + skipN false l)).1 = x := ⟨_, rfl⟩
        rw [hx] at hs ht hlen
        have hi := ih (l.drop (skipN false l + x.text.length)) (pos + skipN false l + x.text.length) (by rw [List.length_drop]; omega)
        rw [List.length_drop] at hi
        rw [hs]
        intro z hz
        unfold lxAhead at hz
        split at hz
        · rcases List.mem_cons.1 hz with rfl | hz
          · rw [ht.2.2.1]
            omega
          · have := hi z hz
            omega
        · have := hi z hz
          omega
      · rw [scanS_err l pos _ rfl hlt he]
        simp

/-- A part that consists of blanks and remarks. -/
def restB (b : Bool) (l : List UInt8) : Bool := decide (skipN b l = l.length)
theorem restB_nil (b : Bool) : restB b [] = true := by cases b <;> rfl
theorem restB_lf (b : Bool) (c : UInt8) (r : List UInt8) (h : (c.toNat : Int) = 10) : restB b (c :: r) = restB false r := by
  have h' : c.toNat = 10 := by omega
  cases b <;> simp [restB, skipN, h']
theorem restB_hash (b : Bool) (c : UInt8) (r : List UInt8) (h : (c.toNat : Int) = 35) : restB b (c :: r) = restB true r := by
  have h' : c.toNat = 35 := by omega
  cases b <;> simp [restB, skipN, h']
theorem restB_rem (c : UInt8) (r : List UInt8) (h : (c.toNat : Int) ≠ 10) : restB true (c :: r) = restB true r := by
  have h' : c.toNat ≠ 10 := by omega
  simp [restB, skipN, h']
theorem restB_blank (c : UInt8) (r : List UInt8) (h : (c.toNat : Int) = 32) : restB false (c :: r) = restB false r := by
  have h' : c.toNat = 32 := by omega
  simp [restB, skipN, h']
theorem restB_out (c : UInt8) (r : List UInt8) (h : (c.toNat : Int) ≠ 10) (h2 : (c.toNat : Int) ≠ 35) (h3 : (c.toNat : Int) ≠ 32) : restB false (c :: r) = false := by
  have h' : c.toNat ≠ 10 := by omega
  have h2' : c.toNat ≠ 35 := by omega
  have h3' : c.toNat ≠ 32 := by omega
  simp [restB, skipN, h', h2', h3']

end Saw

namespace Saw

theorem scanS_size (n : Nat) : ∀ (l : List UInt8) (pos : Int), l.length ≤ n → (scanS l pos).1.length ≤ l.length + 1 ∧ ∀ x ∈ (scanS l pos).1, x.text.length ≤ l.length := by
  induction n with
  | zero =>
    intro l pos hn
    have : l = [] := List.eq_nil_of_length_eq_zero (by omega)
    subst this
    rw [scanS_end [] _ rfl]
    exact ⟨by simp, by intro x hx; rw [List.mem_singleton] at hx; subst hx; simp [lxEnd]⟩
  | succ n ih =>
    intro l pos hn
    have hle := skipN_le l false
    by_cases hk : skipN false l = l.length
    · rw [scanS_end l _ hk]
      exact ⟨by simp, by intro x hx; rw [List.mem_singleton] at hx; subst hx; simp [lxEnd]⟩
    · have hlt : skipN false l < l.length := by omega
      by_cases he : (readP (l.drop (skipN false l)) (pos + skipN false l)).2 = 0
      · have ht := readP_text _ _ he
        have hlen := readP_len _ _ he
        rw [List.length_drop] at hlen
        have hs := scanS_ok l pos _ rfl hlt he _ rfl
        obtain ⟨x, hx⟩ : ∃ x, (readP (l.drop (skipN false l)) (pos + skipN false l)).1 = x := ⟨_, rfl⟩
        rw [hx] at hs ht hlen
        have hi := ih (l.drop (skipN false l + x.text.length)) (pos + skipN false l + x.text.length) (by rw [List.length_drop]; omega)
        rw [List.length_drop] at hi
        rw [hs]
        unfold lxAhead
        split
        · refine ⟨?_, fun z hz => ?_⟩
          · simp only [List.length_append, List.length_cons, List.length_nil]; omega
          · rcases List.mem_cons.1 hz with rfl | hz
            · omega
            · have := hi.2 z hz; omega
        · refine ⟨by omega, fun z hz => ?_⟩
          have := hi.2 z hz; omega
      · rw [scanS_err l pos _ rfl hlt he]
        exact ⟨by simp, by simp⟩

/-- The lexemes of a text without an error. -/
theorem scanP_good (l : List UInt8) (h : (scanP l).2.1 = 0) : l.length ≤ 8000 ∧ (scanP l).2.2 = 0 ∧ (∃ xs, (scanP l).1 = xs ++ [lxEnd l.length] ∧ ∀ x ∈ xs, x.kind ≠ 0) ∧ (scanP l).1.length ≤ 8001 ∧ ∀ x ∈ (scanP l).1, x.text.length ≤ 8000 := by
  by_cases h8 : 8000 < l.length
  · rw [scanP, if_pos h8] at h; cases h
  · have hl : l.length ≤ 8000 := by omega
    rw [scanP_eq l hl] at h ⊢
    obtain ⟨h1, h2⟩ := scanS_size _ l 0 (Nat.le_refl _)
    have h3 := scanS_ne _ l 0 (Nat.le_refl _) h
    rw [Int.zero_add] at h3
    exact ⟨hl, scanS_zero _ _ h, h3, by omega, fun x hx => by have := h2 x hx; omega⟩
theorem scanP_bad (l : List UInt8) (h : (scanP l).2.1 ≠ 0) : (scanP l).1 = [] := by
  by_cases h8 : 8000 < l.length
  · rw [scanP, if_pos h8]
  · rw [scanP_eq l (by omega)] at h ⊢
    obtain ⟨k, _, h2, _⟩ := scanS_bad _ l 0 (Nat.le_refl _) h
    rw [h2]

end Saw
