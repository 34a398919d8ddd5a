/-
  Plain laws of the scan: prefixes, separators, offsets, errors, joined texts, printed texts.
-/
import Derived.Test.YtadflenmdfcflaaDoorPrintP
namespace Saw

/-- The scan of what begins at an offset, blanks and remarks at its head left out. -/
def scanS (l : List UInt8) (pos : Int) : List Lx × Int × Int := scanR (l.drop (skipN false l)) (pos + skipN false l)

theorem scanS_zero (l : List UInt8) (pos : Int) (h : (scanS l pos).2.1 = 0) : (scanS l pos).2.2 = 0 := scanR_zero _ _ h

theorem scanP_eq (l : List UInt8) (h : l.length ≤ 8000) : scanP l = scanS l 0 := by
  rw [scanP, if_neg (by omega), scanS, Int.zero_add]

theorem skipN_drop : ∀ l : List UInt8, skipN false (l.drop (skipN false l)) = 0 := by
  have h : ∀ (l : List UInt8) (b : Bool), skipN false (l.drop (skipN b l)) = 0 := by
    intro l
    induction l with
    | nil => intro b; cases b <;> rfl
    | cons c r ih =>
      intro b
      cases b
      · by_cases h1 : c.toNat = 32 ∨ c.toNat = 10
        · rw [skipN, if_pos h1, List.drop_succ_cons]; exact ih false
        · by_cases h2 : c.toNat = 35
          · rw [skipN, if_neg h1, if_pos h2, List.drop_succ_cons]; exact ih true
          · rw [skipN, if_neg h1, if_neg h2, List.drop_zero, skipN, if_neg h1, if_neg h2]
      · by_cases h1 : c.toNat = 10
        · rw [skipN, if_pos h1, List.drop_succ_cons]; exact ih false
        · rw [skipN, if_neg h1, List.drop_succ_cons]; exact ih true
  exact fun l => h l false

theorem scanR_step (l : List UInt8) (pos : Int) (hl : l ≠ []) (h : (readP l pos).2 = 0) :
    scanR l pos = lxAhead [(readP l pos).1] (scanS (l.drop (readP l pos).1.text.length) (pos + (readP l pos).1.text.length)) := by
  rw [scanR_ok l pos hl h _ _ rfl rfl, scanS, List.drop_drop]
  congr 2
  omega

/-- What is read does not hang on the offset, but for the offset itself. -/
theorem readP_off (l : List UInt8) (p q : Int) : (readP l q).2 = (readP l p).2 ∧ ((readP l p).2 = 0 → (readP l q).1 = { (readP l p).1 with off := q }) := by
  cases l with
  | nil => simp [readP]
  | cons c r =>
    rw [readP, readP]
    simp only
    split
    · split <;> simp
    · split
      · split
        · simp
        · rename_i h; simp only [true_and]; intro h'; exact absurd h' h
      · split
        · simp
        · split <;> simp

/-- A head of a text. -/
theorem spanN_take (p : Int → Bool) : ∀ (l : List UInt8) (n : Nat), spanN p (l.take n) = min (spanN p l) n
  | [], n => by simp [spanN]
  | c :: r, 0 => by simp [spanN]
  | c :: r, n + 1 => by
    rw [List.take_succ_cons, spanN, spanN, spanN_take p r n]
    split <;> omega
theorem skipN_take : ∀ (l : List UInt8) (b : Bool) (n : Nat), skipN b (l.take n) = min (skipN b l) n
  | [], b, n => by cases b <;> simp [skipN]
  | c :: r, b, 0 => by cases b <;> simp [skipN]
  | c :: r, b, n + 1 => by
    rw [List.take_succ_cons]
    have h1 := skipN_take r true n
    have h2 := skipN_take r false n
    cases b
    · rw [skipN, skipN]
      split
      · omega
      · split <;> omega
    · rw [skipN, skipN]
      split <;> omega

theorem take_take_le (l : List UInt8) (i n : Nat) (h : i ≤ n) : (l.take n).take i = l.take i := by
  rw [List.take_take, Nat.min_eq_left h]

theorem readP_take (l : List UInt8) (pos : Int) (n : Nat) (h : (readP l pos).2 = 0) (hn : (readP l pos).1.text.length ≤ n) : readP (l.take n) pos = readP l pos := by
  have hpos := (readP_text l pos h).1
  cases l with
  | nil => simp [readP] at h
  | cons c r =>
    obtain ⟨m, rfl⟩ : ∃ m, n = m + 1 := ⟨n - 1, by omega⟩
    have et : (c :: r).take (m + 1) = c :: r.take m := List.take_succ_cons
    have esp : ∀ p, spanN p (c :: r.take m) = min (spanN p (c :: r)) (m + 1) := fun p => by rw [← et, spanN_take]
    rw [et]
    rw [readP] at h hn ⊢
    rw [readP]
    by_cases hc : letI' c.toNat = true
    · simp only [hc, if_true] at h hn ⊢
      by_cases h16 : 16 < spanN partI (c :: r)
      · simp only [h16, if_true] at h; omega
      · simp only [h16, if_false] at h hn ⊢
        have h2 := spanN_le partI (c :: r)
        rw [List.length_take] at hn
        have e : spanN partI (c :: r.take m) = spanN partI (c :: r) := by rw [esp]; omega
        rw [e, if_neg h16, ← et, take_take_le _ _ _ (by omega)]
    · simp only [hc, Bool.false_eq_true, if_false] at h hn ⊢
      by_cases hd : digI c.toNat = true
      · simp only [hd, if_true] at h hn ⊢
        by_cases hv : (valueP ((c :: r).take (spanN digI (c :: r)))).2 = 0
        · simp only [hv, if_true] at h hn ⊢
          have h2 := spanN_le digI (c :: r)
          rw [List.length_take] at hn
          have e : spanN digI (c :: r.take m) = spanN digI (c :: r) := by rw [esp]; omega
          rw [e, ← et, take_take_le _ _ _ (by omega), if_pos hv]
        · simp only [hv, if_false] at h
      · simp only [hd, Bool.false_eq_true, if_false] at h hn ⊢
        by_cases h2 : 2 ≤ (c :: r).length ∧ isMarkP ((c :: r).take 2) = true
        · simp only [h2, and_self, if_true] at h hn ⊢
          have hm : 2 ≤ m + 1 := by rw [List.length_take] at hn; omega
          rw [← et, take_take_le _ _ _ hm, if_pos ⟨by rw [List.length_take]; omega, h2.2⟩]
        · simp only [h2, if_false] at h hn ⊢
          have h2' : ¬ (2 ≤ (c :: r.take m).length ∧ isMarkP ((c :: r.take m).take 2) = true) := by
            rintro ⟨ha, hb⟩
            rw [← et] at ha hb
            rw [List.length_take] at ha
            rw [take_take_le _ _ _ (by omega)] at hb
            exact h2 ⟨by omega, hb⟩
          rw [if_neg h2', ← et, take_take_le _ _ _ (by omega)]

/-- A byte that ends every lexeme: a line feed or a blank. -/
def sepB (c : UInt8) : Prop := c.toNat = 10 ∨ c.toNat = 32

theorem sep_not {c : UInt8} (h : sepB c) : partI c.toNat = false ∧ digI c.toNat = false := by
  rcases h with h | h <;> rw [h] <;> decide

theorem spanN_sep (p : Int → Bool) (c : UInt8) (hc : p c.toNat = false) (r : List UInt8) : ∀ l : List UInt8, spanN p (l ++ c :: r) = spanN p l
  | [] => by simp [spanN, hc]
  | d :: l => by rw [List.cons_append, spanN, spanN, spanN_sep p c hc r l]

theorem marks_nosep : ∀ m ∈ marks, ∀ c ∈ m, ¬ (c.toNat = 10 ∨ c.toNat = 32) := by decide

theorem readP_sep (l : List UInt8) (c : UInt8) (r : List UInt8) (pos : Int) (hl : l ≠ []) (hc : sepB c) : readP (l ++ c :: r) pos = readP l pos := by
  obtain ⟨hp, hd⟩ := sep_not hc
  cases l with
  | nil => exact absurd rfl hl
  | cons d q =>
    rw [List.cons_append, readP, readP]
    have e1 : spanN partI (d :: (q ++ c :: r)) = spanN partI (d :: q) := spanN_sep partI c hp r (d :: q)
    have e2 : spanN digI (d :: (q ++ c :: r)) = spanN digI (d :: q) := spanN_sep digI c hd r (d :: q)
    have tk : ∀ n, n ≤ (d :: q).length → (d :: (q ++ c :: r)).take n = (d :: q).take n := fun n hn => by
      rw [← List.cons_append, List.take_append_of_le_length hn]
    rw [e1, e2, tk _ (spanN_le _ _), tk _ (spanN_le _ _), tk 1 (by simp)]
    have e3 : (2 ≤ (d :: (q ++ c :: r)).length ∧ isMarkP ((d :: (q ++ c :: r)).take 2) = true) ↔ (2 ≤ (d :: q).length ∧ isMarkP ((d :: q).take 2) = true) := by
      by_cases hq : 2 ≤ (d :: q).length
      · rw [tk 2 hq]
        simp only [hq, true_and]
        constructor
        · exact fun h => h.2
        · exact fun h => ⟨by simp at hq ⊢; omega, h⟩
      · have hq0 : q = [] := by
          cases q with
          | nil => rfl
          | cons _ _ => simp at hq
        subst hq0
        constructor
        · rintro ⟨_, h⟩
          simp only [isMarkP, List.contains_iff_mem] at h
          exact absurd hc (marks_nosep _ h c (by simp))
        · rintro ⟨h, _⟩
          simp at h
    by_cases hc1 : letI' d.toNat = true
    · simp only [hc1, if_true]
    · simp only [hc1, Bool.false_eq_true, if_false]
      by_cases hd1 : digI d.toNat = true
      · simp only [hd1, if_true]
      · simp only [hd1, Bool.false_eq_true, if_false]
        by_cases h2 : 2 ≤ (d :: q).length ∧ isMarkP ((d :: q).take 2) = true
        · rw [if_pos (e3.2 h2), if_pos h2, tk 2 h2.1]
        · rw [if_neg (fun h => h2 (e3.1 h)), if_neg h2]

theorem readP_skip (l : List UInt8) (pos : Int) (h : (readP l pos).2 = 0) : skipN false l = 0 := by
  cases l with
  | nil => rfl
  | cons c r =>
    rw [skipN]
    by_cases h1 : c.toNat = 32 ∨ c.toNat = 10 ∨ c.toNat = 35
    · exfalso
      have hm : ∀ m ∈ marks, ∀ c ∈ m, ¬ (c.toNat = 32 ∨ c.toNat = 10 ∨ c.toNat = 35) := by decide
      have hp : letI' c.toNat = false ∧ digI c.toNat = false := by
        rcases h1 with h1 | h1 | h1 <;> rw [h1] <;> decide
      rw [readP] at h
      simp only [hp.1, hp.2, Bool.false_eq_true, if_false] at h
      have h2 : ¬ (2 ≤ (c :: r).length ∧ isMarkP ((c :: r).take 2) = true) := by
        rintro ⟨_, hb⟩
        simp only [isMarkP, List.contains_iff_mem] at hb
        exact hm _ hb c (by simp) h1
      have h3 : ¬ isMarkP ((c :: r).take 1) = true := by
        intro hb
        simp only [isMarkP, List.contains_iff_mem] at hb
        exact hm _ hb c (by simp) h1
      rw [if_neg h2, if_neg h3] at h
      simp at h
    · rw [if_neg (by omega), if_neg (by omega)]

theorem skipN_app : ∀ (l : List UInt8) (b : Bool) (r : List UInt8), skipN b l < l.length → skipN b (l ++ r) = skipN b l
  | [], b, r, h => by simp at h
  | c :: l, b, r, h => by
    have h1 := skipN_app l true r
    have h2 := skipN_app l false r
    rw [List.cons_append]
    cases b
    · rw [skipN] at h ⊢
      rw [skipN]
      simp only [List.length_cons] at h
      split
      · rename_i hc; rw [if_pos hc] at h; rw [h2 (by omega)]
      · rename_i hc
        rw [if_neg hc] at h
        split
        · rename_i hd; rw [if_pos hd] at h; rw [h1 (by omega)]
        · rfl
    · rw [skipN] at h ⊢
      rw [skipN]
      simp only [List.length_cons] at h
      split
      · rename_i hc; rw [if_pos hc] at h; rw [h2 (by omega)]
      · rename_i hc; rw [if_neg hc] at h; rw [h1 (by omega)]
theorem skipN_all10 : ∀ (l : List UInt8) (b : Bool) (r : List UInt8), skipN b l = l.length → skipN b (l ++ 10 :: r) = l.length + 1 + skipN false r
  | [], b, r, _ => by cases b <;> simp [skipN] <;> omega
  | c :: l, b, r, h => by
    have h1 := skipN_all10 l true r
    have h2 := skipN_all10 l false r
    rw [List.cons_append]
    cases b
    · rw [skipN] at h ⊢
      simp only [List.length_cons] at h ⊢
      split
      · rename_i hc; rw [if_pos hc] at h; rw [h2 (by omega)]; omega
      · rename_i hc
        rw [if_neg hc] at h
        split
        · rename_i hd; rw [if_pos hd] at h; rw [h1 (by omega)]; omega
        · rename_i hd; rw [if_neg hd] at h; omega
    · rw [skipN] at h ⊢
      simp only [List.length_cons] at h ⊢
      split
      · rename_i hc; rw [if_pos hc] at h; rw [h2 (by omega)]; omega
      · rename_i hc; rw [if_neg hc] at h; rw [h1 (by omega)]; omega

/-- The scan from an offset on: all is skipped, or an error, or a lexeme and the rest. -/
theorem scanS_end (l : List UInt8) (pos : Int) (h : skipN false l = l.length) : scanS l pos = ([lxEnd (pos + l.length)], 0, 0) := by
  rw [scanS, h, List.drop_length, scanR_nil]
theorem scanS_err (l : List UInt8) (pos : Int) (k : Nat) (hk : skipN false l = k) (hl : k < l.length) (h : (readP (l.drop k) (pos + k)).2 ≠ 0) :
    scanS l pos = ([], (readP (l.drop k) (pos + k)).2, pos + k) := by
  subst hk
  exact scanR_err _ _ (by intro h0; rw [List.drop_eq_nil_iff] at h0; omega) h
theorem scanS_ok (l : List UInt8) (pos : Int) (k : Nat) (hk : skipN false l = k) (hl : k < l.length) (h : (readP (l.drop k) (pos + k)).2 = 0) (m : Nat) (hm : (readP (l.drop k) (pos + k)).1.text.length = m) :
    scanS l pos = lxAhead [(readP (l.drop k) (pos + k)).1] (scanS (l.drop (k + m)) (pos + k + m)) := by
  subst hk hm
  rw [scanS, scanR_step _ _ (by intro h0; rw [List.drop_eq_nil_iff] at h0; omega) h, List.drop_drop]

theorem readP_len (l : List UInt8) (pos : Int) (h : (readP l pos).2 = 0) : (readP l pos).1.text.length ≤ l.length := by
  rw [(readP_text l pos h).2.1]
  exact List.length_take_le' _ _

/-- The end of a scan without an error is there. -/
theorem scanS_ne (n : Nat) : ∀ (l : List UInt8) (pos : Int), l.length ≤ n → (scanS l pos).2.1 = 0 → ∃ xs, (scanS l pos).1 = xs ++ [lxEnd (pos + l.length)] ∧ ∀ x ∈ xs, x.kind ≠ 0 := by
  induction n with
  | zero =>
    intro l pos hn _
    have : l = [] := List.eq_nil_of_length_eq_zero (by omega)
    subst this
    exact ⟨[], rfl, by simp⟩
  | succ n ih =>
    intro l pos hn h
    have hle := skipN_le l false
    by_cases hk : skipN false l = l.length
    · rw [scanS_end l pos hk]
      exact ⟨[], rfl, by simp⟩
    · have hlt : skipN false l < l.length := by omega
      by_cases he : (readP (l.drop (skipN false l)) (pos + skipN false l)).2 = 0
      · have ht := readP_text _ _ he
        have hlen := readP_len _ _ he
        rw [List.length_drop] at hlen
        rw [scanS_ok l pos _ rfl hlt he _ rfl] at h ⊢
        have h' : (scanS (l.drop (skipN false l + (readP (l.drop (skipN false l)) (pos + skipN false l)).1.text.length)) (pos + skipN false l + (readP (l.drop (skipN false l)) (pos + skipN false l)).1.text.length)).2.1 = 0 := by
          unfold lxAhead at h
          split at h
          · assumption
          · exact h
        obtain ⟨xs, hx, hxs⟩ := ih _ _ (by rw [List.length_drop]; omega) h'
        refine ⟨(readP (l.drop (skipN false l)) (pos + skipN false l)).1 :: xs, ?_, ?_⟩
        · rw [lxAhead, if_pos h', hx, List.length_drop]
          simp only [List.cons_append, List.nil_append, List.cons.injEq, true_and, List.append_cancel_left_eq, and_true]
          congr 1
          omega
        · intro x hx
          rcases List.mem_cons.1 hx with rfl | hx
          · exact ht.2.2.2
          · exact hxs x hx
      · rw [scanS_err l pos _ rfl hlt he] at h
        exact absurd h he

/-- Two texts with a line feed between them. -/
theorem scanS_join (n : Nat) : ∀ (l r : List UInt8) (pos : Int), l.length ≤ n →
    scanS (l ++ 10 :: r) pos = if (scanS l pos).2.1 = 0 then lxAhead (scanS l pos).1.dropLast (scanS r (pos + l.length + 1)) else scanS l pos := by
  induction n with
  | zero =>
    intro l r pos hn
    have : l = [] := List.eq_nil_of_length_eq_zero (by omega)
    subst this
    rw [scanS_end [] pos rfl, if_pos rfl, List.dropLast_singleton, lxAhead_nil _ (scanS_zero _ _)]
    rw [scanS, scanS, List.nil_append]
    have : skipN false (10 :: r) = skipN false r + 1 := by rw [skipN]; simp
    rw [this, List.drop_succ_cons]
    congr 1
    simp; omega
  | succ n ih =>
    intro l r pos hn
    have hle := skipN_le l false
    by_cases hk : skipN false l = l.length
    · rw [scanS_end l pos hk, if_pos rfl, List.dropLast_singleton, lxAhead_nil _ (scanS_zero _ _)]
      rw [scanS, scanS, skipN_all10 l false r hk]
      rw [show (l ++ 10 :: r).drop (l.length + 1 + skipN false r) = r.drop (skipN false r) by
        rw [Nat.add_assoc, List.drop_append, List.drop_eq_nil_of_le (by omega), List.nil_append, show l.length + (1 + skipN false r) - l.length = skipN false r + 1 by omega, List.drop_succ_cons]]
      congr 1
      omega
    · have hlt : skipN false l < l.length := by omega
      have e0 : skipN false (l ++ 10 :: r) = skipN false l := skipN_app l false _ hlt
      have ed : ∀ i, i ≤ l.length → (l ++ 10 :: r).drop i = l.drop i ++ 10 :: r := fun i hi => List.drop_append_of_le_length hi
      have hne : l.drop (skipN false l) ≠ [] := by intro h0; rw [List.drop_eq_nil_iff] at h0; omega
      have er : readP ((l ++ 10 :: r).drop (skipN false l)) (pos + skipN false l) = readP (l.drop (skipN false l)) (pos + skipN false l) := by
        rw [ed _ hle, readP_sep _ _ _ _ hne (.inl rfl)]
      by_cases he : (readP (l.drop (skipN false l)) (pos + skipN false l)).2 = 0
      · have ht := readP_text _ _ he
        have hlen := readP_len _ _ he
        rw [List.length_drop] at hlen
        rw [scanS_ok (l ++ 10 :: r) pos _ e0 (by simp; omega) (by rw [er]; exact he) _ (by rw [er]), er, ed _ (by omega), ih _ _ _ (by rw [List.length_drop]; omega), scanS_ok l pos _ rfl hlt he _ rfl]
        obtain ⟨y, hy⟩ : ∃ y, scanS (l.drop (skipN false l + (readP (l.drop (skipN false l)) (pos + skipN false l)).1.text.length)) (pos + skipN false l + (readP (l.drop (skipN false l)) (pos + skipN false l)).1.text.length) = y := ⟨_, rfl⟩
        rw [hy]
        by_cases h0 : y.2.1 = 0
        · obtain ⟨xs, hx, _⟩ := scanS_ne _ _ _ (Nat.le_refl _) (show (scanS (l.drop (skipN false l + (readP (l.drop (skipN false l)) (pos + skipN false l)).1.text.length)) (pos + skipN false l + (readP (l.drop (skipN false l)) (pos + skipN false l)).1.text.length)).2.1 = 0 by rw [hy]; exact h0)
          rw [hy] at hx
          have hxy : lxAhead [(readP (l.drop (skipN false l)) (pos + skipN false l)).1] y = ((readP (l.drop (skipN false l)) (pos + skipN false l)).1 :: y.1, 0, 0) := by rw [lxAhead, if_pos h0]; rfl
          rw [if_pos h0, lxAhead_lxAhead, hxy, if_pos rfl, hx, List.length_drop]
          congr 1
          · simp [List.dropLast_cons_of_ne_nil]
          · congr 1
            omega
        · rw [if_neg h0]
          have : lxAhead [(readP (l.drop (skipN false l)) (pos + skipN false l)).1] y = y := by rw [lxAhead, if_neg h0]
          rw [this, if_neg h0]
      · rw [scanS_err (l ++ 10 :: r) pos _ e0 (by simp; omega) (by rw [er]; exact he), er, scanS_err l pos _ rfl hlt he, if_neg he]

end Saw
