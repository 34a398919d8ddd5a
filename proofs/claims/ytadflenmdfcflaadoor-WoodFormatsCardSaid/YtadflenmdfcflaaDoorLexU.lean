/-
  Plain laws of the scan, continued: errors, offsets, printed texts.
-/
import Derived.Test.YtadflenmdfcflaaDoorLexT
namespace Saw

/-- The three errors of reading. -/
theorem readP_errs (l : List UInt8) (pos : Int) : (readP l pos).2 = 0 ∨ (readP l pos).2 = 5 ∨ (readP l pos).2 = 6 ∨ (readP l pos).2 = 9 := by
  cases l with
  | nil => simp [readP]
  | cons c r =>
    rw [readP]
    split
    · split <;> simp
    · split
      · split
        · simp
        · rename_i h
          simp only
          unfold valueP at h ⊢
          split
          · simp
          · cases hv : valN 0 ((c :: r).take (spanN digI (c :: r))) <;> simp [valPair]
      · split
        · simp
        · split <;> simp

/-- An error: its offset, what begins there, what stands ahead of it. -/
theorem scanS_bad (n : Nat) : ∀ (l : List UInt8) (pos : Int), l.length ≤ n → (scanS l pos).2.1 ≠ 0 →
    ∃ k : Nat, k < l.length ∧ (scanS l pos) = ([], (scanS l pos).2.1, pos + k) ∧ skipN false (l.drop k) = 0 ∧ (readP (l.drop k) 0).2 = (scanS l pos).2.1 ∧ (scanS (l.take k) pos).2.1 = 0 := by
  induction n with
  | zero =>
    intro l pos hn h
    have : l = [] := List.eq_nil_of_length_eq_zero (by omega)
    subst this
    exact absurd rfl h
  | succ n ih =>
    intro l pos hn h
    have hle := skipN_le l false
    by_cases hk : skipN false l = l.length
    · rw [scanS_end l pos hk] at h
      exact absurd rfl h
    · have hlt : skipN false l < l.length := by omega
      by_cases he : (readP (l.drop (skipN false l)) (pos + skipN false l)).2 = 0
      · have ht := readP_text _ _ he
        have hlen := readP_len _ _ he
        rw [List.length_drop] at hlen
        obtain ⟨m, hm⟩ : ∃ m, (readP (l.drop (skipN false l)) (pos + skipN false l)).1.text.length = m := ⟨_, rfl⟩
        rw [hm] at hlen ht
        have hs := scanS_ok l pos _ rfl hlt he m hm
        obtain ⟨y, hy⟩ : ∃ y, scanS (l.drop (skipN false l + m)) (pos + skipN false l + m) = y := ⟨_, rfl⟩
        rw [hy] at hs
        have hy0 : y.2.1 ≠ 0 := by
          intro h0
          apply h
          rw [hs, lxAhead, if_pos h0]
        have hsy : scanS l pos = y := by rw [hs, lxAhead, if_neg hy0]
        obtain ⟨k, hk1, hk2, hk3, hk4, hk5⟩ := ih (l.drop (skipN false l + m)) (pos + skipN false l + m) (by rw [List.length_drop]; omega) (by rw [hy]; exact hy0)
        rw [hy] at hk2 hk4
        rw [List.length_drop] at hk1
        refine ⟨skipN false l + m + k, by omega, ?_, ?_, ?_, ?_⟩
        · rw [hsy, hk2]
          simp only [Prod.mk.injEq, true_and]
          omega
        · rw [← List.drop_drop]; exact hk3
        · rw [← List.drop_drop, hsy]; exact hk4
        · have e0 : skipN false (l.take (skipN false l + m + k)) = skipN false l := by rw [skipN_take]; omega
          have er : readP ((l.take (skipN false l + m + k)).drop (skipN false l)) (pos + skipN false l) = readP (l.drop (skipN false l)) (pos + skipN false l) := by
            rw [List.drop_take]
            exact readP_take _ _ _ he (by rw [hm]; omega)
          have ed : (l.take (skipN false l + m + k)).drop (skipN false l + m) = (l.drop (skipN false l + m)).take k := by
            rw [List.drop_take, show skipN false l + m + k - (skipN false l + m) = k by omega]
          rw [scanS_ok (l.take (skipN false l + m + k)) pos _ e0 (by rw [List.length_take]; omega) (by rw [er]; exact he) m (by rw [er]; exact hm), ed]
          rw [lxAhead, if_pos hk5]
      · have hs := scanS_err l pos _ rfl hlt he
        refine ⟨skipN false l, hlt, by rw [hs], skipN_drop l, ?_, ?_⟩
        · rw [hs]
          exact (readP_off _ _ _).1
        · rw [scanS_end _ _ (by rw [skipN_take, List.length_take]; omega)]

theorem scanS_at0 (l : List UInt8) (h0 : skipN false l = 0) (hl : l ≠ []) (he : (readP l 0).2 ≠ 0) : scanS l 0 = ([], (readP l 0).2, 0) := by
  have hp : 0 < l.length := List.length_pos_iff.2 hl
  have h := scanS_err l 0 0 h0 hp (by simpa using he)
  simpa using h

theorem scanS_errs (n : Nat) : ∀ (l : List UInt8) (pos : Int), l.length ≤ n → (scanS l pos).2.1 = 0 ∨ (scanS l pos).2.1 = 5 ∨ (scanS l pos).2.1 = 6 ∨ (scanS l pos).2.1 = 9 := by
  intro l pos hn
  by_cases h : (scanS l pos).2.1 = 0
  · exact .inl h
  · obtain ⟨k, _, _, _, hk4, _⟩ := scanS_bad n l pos hn h
    rw [← hk4]
    exact readP_errs _ _

/-- The lexemes of a text stand at their offsets, in order, with blanks and remarks between them. -/
def offsOK (s : List UInt8) : Nat → List Lx → Prop
  | _, [] => False
  | k, [x] => x.kind = 0 ∧ x.text = [] ∧ x.off = s.length ∧ k ≤ s.length ∧ skipN false (s.drop k) = s.length - k
  | k, x :: y :: r => x.kind ≠ 0 ∧ x.text ≠ [] ∧ ∃ j : Nat, x.off = (k + j : Nat) ∧ skipN false ((s.drop k).take j) = j ∧ k + j + x.text.length ≤ s.length ∧ (s.drop (k + j)).take x.text.length = x.text ∧ offsOK s (k + j + x.text.length) (y :: r)

theorem scanS_offs (n : Nat) : ∀ (s : List UInt8) (k : Nat) (pos : Int), k ≤ s.length → s.length - k ≤ n → pos = k → (scanS (s.drop k) pos).2.1 = 0 → offsOK s k (scanS (s.drop k) pos).1 := by
  induction n with
  | zero =>
    intro s k pos hk hn hp h
    rw [List.drop_eq_nil_of_le (by omega), scanS_end [] pos rfl]
    refine ⟨rfl, rfl, ?_, hk, ?_⟩
    · show pos + (0 : Nat) = _
      omega
    · rw [List.drop_eq_nil_of_le (by omega)]
      show 0 = _
      omega
  | succ n ih =>
    intro s k pos hk hn hp h
    have hle := skipN_le (s.drop k) false
    rw [List.length_drop] at hle
    by_cases hs : skipN false (s.drop k) = (s.drop k).length
    · rw [scanS_end _ pos hs]
      rw [List.length_drop] at hs
      refine ⟨rfl, rfl, ?_, hk, hs⟩
      show pos + ((s.drop k).length : Nat) = _
      rw [List.length_drop]
      omega
    · have hlt : skipN false (s.drop k) < (s.drop k).length := by rw [List.length_drop] at hs ⊢; omega
      by_cases he : (readP ((s.drop k).drop (skipN false (s.drop k))) (pos + skipN false (s.drop k))).2 = 0
      · have ht := readP_text _ _ he
        have hlen := readP_len _ _ he
        rw [List.length_drop, List.length_drop] at hlen
        have hso := scanS_ok (s.drop k) pos _ rfl hlt he _ rfl
        obtain ⟨x, hx⟩ : ∃ x, (readP ((s.drop k).drop (skipN false (s.drop k))) (pos + skipN false (s.drop k))).1 = x := ⟨_, rfl⟩
        obtain ⟨j, hj⟩ : ∃ j, skipN false (s.drop k) = j := ⟨_, rfl⟩
        rw [hx] at hso ht hlen
        rw [hj] at hso ht hlen hlt hle
        rw [List.drop_drop] at hso ht
        obtain ⟨y, hy⟩ : ∃ y, scanS (s.drop (k + (j + x.text.length))) (pos + j + x.text.length) = y := ⟨_, rfl⟩
        have hy0 : y.2.1 = 0 := by
          rw [hso, hy, lxAhead] at h
          split at h
          · assumption
          · exact h
        have hi := ih s (k + j + x.text.length) (pos + j + x.text.length) (by omega) (by omega) (by omega) (by rw [show k + j + x.text.length = k + (j + x.text.length) by omega, hy]; exact hy0)
        rw [show k + j + x.text.length = k + (j + x.text.length) by omega, hy] at hi
        rw [hso, hy, lxAhead, if_pos hy0]
        cases hyl : y.1 with
        | nil => rw [hyl] at hi; exact hi.elim
        | cons z r =>
          rw [hyl] at hi
          refine ⟨ht.2.2.2, ?_, j, ?_, ?_, by omega, ht.2.1.symm, ?_⟩
          · intro h0
            rw [h0] at ht
            exact absurd ht.1 (by simp)
          · rw [ht.2.2.1]; omega
          · rw [skipN_take, hj]; omega
          · rw [show k + j + x.text.length = k + (j + x.text.length) by omega]
            exact hi
      · rw [scanS_err _ pos _ rfl hlt he] at h
        exact absurd h he

/-- A lexeme that is read as itself where its text stands alone. -/
def lexOK (x : Lx) : Prop := x.kind ≠ 0 ∧ ∀ pos, readP x.text pos = ({ x with off := pos }, 0)

theorem readP_lexOK (l : List UInt8) (pos : Int) (h : (readP l pos).2 = 0) : lexOK (readP l pos).1 := by
  have ht := readP_text l pos h
  refine ⟨ht.2.2.2, fun p => ?_⟩
  have h1 := readP_take l pos _ h (Nat.le_refl _)
  rw [← ht.2.1] at h1
  have h2 := readP_off (readP l pos).1.text pos p
  rw [h1] at h2
  have h3 := h2.2 h
  have h4 : (readP (readP l pos).1.text p).2 = 0 := by rw [h2.1]; exact h
  exact Prod.ext h3 h4

/-- All lexemes of a scan but its end are such; their texts and their number are bounded by the text. -/
theorem scanS_lexOK (n : Nat) : ∀ (l : List UInt8) (pos : Int), l.length ≤ n → (scanS l pos).2.1 = 0 →
    ∃ xs, (scanS l pos).1 = xs ++ [lxEnd (pos + l.length)] ∧ (∀ x ∈ xs, lexOK x) ∧ xs.length ≤ (xs.map (·.text)).flatten.length ∧ (xs.map (·.text)).flatten.length ≤ l.length := by
  induction n with
  | zero =>
    intro l pos hn _
    have : l = [] := List.eq_nil_of_length_eq_zero (by omega)
    subst this
    exact ⟨[], rfl, by simp, by simp, by simp⟩
  | succ n ih =>
    intro l pos hn h
    have hle := skipN_le l false
    by_cases hk : skipN false l = l.length
    · rw [scanS_end l pos hk]
      exact ⟨[], rfl, by simp, by simp, by simp⟩
    · have hlt : skipN false l < l.length := by omega
      by_cases he : (readP (l.drop (skipN false l)) (pos + skipN false l)).2 = 0
      · have ht := readP_text _ _ he
        have hlen := readP_len _ _ he
        have hok := readP_lexOK _ _ he
        rw [List.length_drop] at hlen
        have hs := scanS_ok l pos _ rfl hlt he _ rfl
        obtain ⟨x, hx⟩ : ∃ x, (readP (l.drop (skipN false l)) (pos + skipN false l)).1 = x := ⟨_, rfl⟩
        rw [hx] at hs ht hlen hok
        have h' : (scanS (l.drop (skipN false l + x.text.length)) (pos + skipN false l + x.text.length)).2.1 = 0 := by
          rw [hs] at h
          unfold lxAhead at h
          split at h
          · assumption
          · exact h
        obtain ⟨xs, h1, h2, h3, h4⟩ := ih _ _ (by rw [List.length_drop]; omega) h'
        refine ⟨x :: xs, ?_, ?_, ?_, ?_⟩
        · rw [hs, lxAhead, if_pos h', h1, List.length_drop]
          simp only [List.cons_append, List.nil_append, List.cons.injEq, true_and, List.append_cancel_left_eq, and_true]
          congr 1
          omega
        · intro y hy
          rcases List.mem_cons.1 hy with rfl | hy
          · exact hok
          · exact h2 y hy
        · simp only [List.map_cons, List.flatten_cons, List.length_append, List.length_cons]
          omega
        · rw [List.length_drop] at h4
          simp only [List.map_cons, List.flatten_cons, List.length_append]
          omega
      · rw [scanS_err l pos _ rfl hlt he] at h
        exact absurd h he

theorem join_two (x y : List UInt8) (r : List (List UInt8)) : Go.Lib.join (x :: y :: r) [32] = x ++ 32 :: Go.Lib.join (y :: r) [32] := by
  rw [Go.Lib.join_cons, Go.Lib.join_cons]
  simp [Go.Lib.joinTail]

theorem join_len : ∀ r : List (List UInt8), (Go.Lib.join r [32]).length ≤ r.flatten.length + r.length
  | [] => by simp [Go.Lib.join_nil]
  | [x] => by simp [Go.Lib.join_one]
  | x :: y :: r => by
    have h := join_len (y :: r)
    rw [join_two]
    simp only [List.length_append, List.length_cons, List.flatten_cons] at h ⊢
    omega

theorem texts_of (xs : List Lx) (h : ∀ x ∈ xs, x.kind ≠ 0) (p : Int) : texts (xs ++ [lxEnd p]) = xs.map (·.text) := by
  unfold texts
  rw [List.filter_append, List.filter_eq_self.2 (by intro x hx; simpa using h x hx)]
  simp [lxEnd]

/-- A lexeme alone, or ahead of a blank. -/
theorem scanS_one (x : Lx) (h : lexOK x) (pos : Int) : scanS x.text pos = ([{ x with off := pos }, lxEnd (pos + x.text.length)], 0, 0) := by
  have hr := h.2 pos
  have he : (readP x.text pos).2 = 0 := by rw [hr]
  have ht := readP_text _ _ he
  have h0 := readP_skip _ _ he
  rw [hr] at ht
  have hs := scanS_ok x.text pos 0 h0 ht.1 (by simpa using he) x.text.length (by simp [hr])
  rw [hs, Nat.zero_add, List.drop_length, scanS_end [] _ rfl]
  simp [lxAhead, hr]
theorem scanS_two (x : Lx) (h : lexOK x) (r : List UInt8) (pos : Int) : scanS (x.text ++ 32 :: r) pos = lxAhead [{ x with off := pos }] (scanS r (pos + x.text.length + 1)) := by
  have hr := h.2 pos
  have he : (readP x.text pos).2 = 0 := by rw [hr]
  have ht := readP_text _ _ he
  have h0 := readP_skip _ _ he
  rw [hr] at ht
  have hne : x.text ≠ [] := by intro h0; rw [h0] at ht; exact absurd ht.1 (by simp)
  have er : readP (x.text ++ 32 :: r) pos = readP x.text pos := readP_sep _ _ _ _ hne (.inr rfl)
  have e0 : skipN false (x.text ++ 32 :: r) = 0 := by rw [skipN_app _ _ _ (by rw [h0]; exact ht.1), h0]
  have hs := scanS_ok (x.text ++ 32 :: r) pos 0 e0 (by simp; omega) (by simp [er, he]) x.text.length (by simp [er, hr])
  rw [hs, Nat.zero_add, List.drop_left]
  simp only [Int.natCast_zero, Int.add_zero, List.drop_zero, er, hr]
  congr 1
  rw [scanS, scanS]
  have : skipN false (32 :: r) = skipN false r + 1 := by rw [skipN]; simp
  rw [this, List.drop_succ_cons]
  congr 1
  simp; omega

theorem sameP_app : ∀ (a b c d : List Lx), sameP a b = true → sameP c d = true → sameP (a ++ c) (b ++ d) = true
  | [], [], _, _, _, h => h
  | [], _ :: _, _, _, h, _ => by simp [sameP] at h
  | _ :: _, [], _, _, h, _ => by simp [sameP] at h
  | x :: a, y :: b, c, d, h, h' => by
    simp only [sameP, Bool.and_eq_true, List.cons_append] at h ⊢
    exact ⟨h.1, sameP_app a b c d h.2 h'⟩

theorem sameLx_off (x : Lx) (p : Int) : sameLx x { x with off := p } = true := by simp [sameLx]

/-- The texts of lexemes, joined with blanks, are read as the same lexemes. -/
theorem scanS_again : ∀ (xs : List Lx), (∀ x ∈ xs, lexOK x) → ∀ pos : Int, ∃ ys, scanS (Go.Lib.join (xs.map (·.text)) [32]) pos = (ys ++ [lxEnd (pos + (Go.Lib.join (xs.map (·.text)) [32]).length)], 0, 0) ∧ sameP xs ys = true ∧ ys.map (·.text) = xs.map (·.text) ∧ ∀ y ∈ ys, y.kind ≠ 0
  | [], _, pos => ⟨[], by rw [List.map_nil, Go.Lib.join_nil]; exact scanS_end [] pos rfl, rfl, rfl, by simp⟩
  | [x], h, pos => by
    have hx := h x (by simp)
    refine ⟨[{ x with off := pos }], ?_, ?_, rfl, ?_⟩
    · rw [List.map_singleton, Go.Lib.join_one, scanS_one x hx pos]
      rfl
    · simp [sameP, sameLx]
    · intro y hy
      rw [List.mem_singleton] at hy
      subst hy
      exact hx.1
  | x :: y :: r, h, pos => by
    have hx := h x (by simp)
    obtain ⟨ys, h1, h2, h3, h4⟩ := scanS_again (y :: r) (fun z hz => h z (by simp [hz])) (pos + x.text.length + 1)
    refine ⟨{ x with off := pos } :: ys, ?_, ?_, ?_, ?_⟩
    · rw [List.map_cons, List.map_cons, join_two, scanS_two x hx, ← List.map_cons (f := fun z : Lx => z.text), h1, lxAhead, if_pos rfl]
      simp only [List.cons_append, List.nil_append, List.length_append, List.length_cons, Prod.mk.injEq, and_true, List.cons.injEq, true_and, List.append_cancel_left_eq]
      congr 1
      omega
    · simp only [sameP, sameLx_off, Bool.true_and]
      exact h2
    · simp only [List.map_cons] at h3 ⊢
      rw [h3]
    · intro z hz
      rcases List.mem_cons.1 hz with rfl | hz
      · exact hx.1
      · exact h4 z hz

end Saw
