/-
  Plain: texts out of lexemes, whatever stands between them; numerals; lexemes without their offsets.
-/
import Derived.Test.YthineckpociomaaDoorPlainB
namespace Saw

/-- A lexeme without its offset. -/
def Lx.bare (x : Lx) : Lx := { x with off := 0 }
theorem sameLx_bare (x y : Lx) : sameLx x y = true ↔ x.bare = y.bare := by
  cases x; cases y
  simp [sameLx, Lx.bare, and_assoc]
theorem sameP_bare : ∀ l l' : List Lx, sameP l l' = true ↔ l.map Lx.bare = l'.map Lx.bare
  | [], [] => by simp [sameP]
  | [], _ :: _ => by simp [sameP]
  | _ :: _, [] => by simp [sameP]
  | x :: r, y :: q => by
    rw [sameP, Bool.and_eq_true, sameLx_bare, sameP_bare r q, List.map_cons, List.map_cons, List.cons.injEq]

/-- A text that has these lexemes (without their offsets), the end left out. -/
def Lexes (l : List UInt8) (ts : List Lx) : Prop := ∀ pos : Int, ∃ ys, scanS l pos = (ys ++ [lxEnd (pos + l.length)], 0, 0) ∧ ys.map Lx.bare = ts ∧ ∀ y ∈ ys, y.kind ≠ 0

theorem Lexes.nil : Lexes [] [] := fun pos => ⟨[], by rw [scanS_end [] pos rfl]; rfl, rfl, by simp⟩
theorem Lexes.blank {c : UInt8} {l : List UInt8} {ts : List Lx} (hc : c.toNat = 32 ∨ c.toNat = 10) (h : Lexes l ts) : Lexes (c :: l) ts := fun pos => by
  obtain ⟨ys, h1, h2, h3⟩ := h (pos + 1)
  refine ⟨ys, ?_, h2, h3⟩
  have e : scanS (c :: l) pos = scanS l (pos + 1) := by
    rw [scanS, scanS, skipN, if_pos hc, List.drop_succ_cons]
    congr 1
    omega
  rw [e, h1, List.length_cons]
  congr 4
  omega
theorem Lexes.tok {x : Lx} {l : List UInt8} {ts : List Lx} (hx : lexOK x) (hr : ∀ pos, readP (x.text ++ l) pos = readP x.text pos) (h : Lexes l ts) : Lexes (x.text ++ l) (x.bare :: ts) := fun pos => by
  obtain ⟨ys, h1, h2, h3⟩ := h (pos + x.text.length)
  have hr1 := hx.2 pos
  have he : (readP x.text pos).2 = 0 := by rw [hr1]
  have ht := readP_text _ _ he
  have h0 := readP_skip _ _ he
  rw [hr1] at ht
  have er := hr pos
  have e0 : skipN false (x.text ++ l) = 0 := by rw [skipN_app _ _ _ (by rw [h0]; exact ht.1), h0]
  have hs := scanS_ok (x.text ++ l) pos 0 e0 (by rw [List.length_append]; exact Nat.lt_of_lt_of_le ht.1 (Nat.le_add_right _ _)) (by simp [er, he]) x.text.length (by simp [er, hr1])
  rw [Nat.zero_add, List.drop_left] at hs
  simp only [Int.natCast_zero, Int.add_zero, List.drop_zero, er, hr1] at hs
  rw [h1] at hs
  refine ⟨{ x with off := pos } :: ys, ?_, ?_, ?_⟩
  · rw [hs]
    simp only [lxAhead, if_true, List.length_append, List.cons_append, List.nil_append, Int.natCast_add, Int.add_assoc]
  · rw [List.map_cons, h2]; rfl
  · intro y hy
    rcases List.mem_cons.1 hy with rfl | hy
    · exact hx.1
    · exact h3 y hy

theorem readP_app (l : List UInt8) (c : UInt8) (r : List UInt8) (pos : Int) (hl : l ≠ []) (hp : letI' (l.headD 0).toNat = true → partI c.toNat = false) (hd : digI (l.headD 0).toNat = true → digI c.toNat = false)
    (hm : letI' (l.headD 0).toNat = false → digI (l.headD 0).toNat = false → l.length = 1 → isMarkP (l ++ [c]) = false) : readP (l ++ c :: r) pos = readP l pos := by
  cases l with
  | nil => exact absurd rfl hl
  | cons d q =>
    simp only [List.headD_cons] at hp hd hm
    rw [List.cons_append, readP, readP]
    have tk : ∀ n, n ≤ (d :: q).length → (d :: (q ++ c :: r)).take n = (d :: q).take n := fun n hn => by
      rw [← List.cons_append, List.take_append_of_le_length hn]
    by_cases hc1 : letI' d.toNat = true
    · have e1 : spanN partI (d :: (q ++ c :: r)) = spanN partI (d :: q) := spanN_sep partI c (hp hc1) r (d :: q)
      rw [e1, tk _ (spanN_le _ _)]
      simp only [hc1, if_true]
    · simp only [hc1, Bool.false_eq_true, if_false]
      by_cases hd1 : digI d.toNat = true
      · have e2 : spanN digI (d :: (q ++ c :: r)) = spanN digI (d :: q) := spanN_sep digI c (hd hd1) r (d :: q)
        rw [e2, tk _ (spanN_le _ _)]
        simp only [hd1, if_true]
      · simp only [hd1, Bool.false_eq_true, if_false]
        rw [tk 1 (by simp)]
        by_cases hq : 2 ≤ (d :: q).length
        · rw [tk 2 hq]
          have : 2 ≤ (d :: (q ++ c :: r)).length := by simp at hq ⊢; omega
          simp only [hq, this, true_and]
        · have hq0 : q = [] := by
            cases q with
            | nil => rfl
            | cons _ _ => simp at hq
          subst hq0
          have h9 := hm (by simpa using hc1) (by simpa using hd1) rfl
          have h8 : isMarkP ((d :: ([] ++ c :: r)).take 2) = false := h9
          rw [if_neg (c := 2 ≤ (d :: ([] ++ c :: r)).length ∧ isMarkP ((d :: ([] ++ c :: r)).take 2) = true) (by rw [h8]; simp), if_neg (c := 2 ≤ [d].length ∧ _) (by simp)]

def nmT (t : List UInt8) : Lx := ⟨1, t, 0, 0⟩
def nuT (n : Int) : Lx := ⟨2, Go.Lib.itoa n, n, 0⟩
def mkT (t : List UInt8) : Lx := ⟨3, t, 0, 0⟩
/-- The text of a name lexeme. -/
def isWord (t : List UInt8) : Bool := decide (t.length ≤ 16) && letI' (t.headD 0).toNat && t.all fun c => partI c.toNat

theorem spanN_all (p : Int → Bool) : ∀ l : List UInt8, (l.all fun c => p c.toNat) = true → spanN p l = l.length
  | [], _ => rfl
  | c :: r, h => by
    rw [List.all_cons, Bool.and_eq_true] at h
    rw [spanN, if_pos h.1, spanN_all p r h.2]
    rfl
theorem lexOK_word {t : List UInt8} (h : isWord t = true) : lexOK (nmT t) := by
  unfold isWord at h
  rw [Bool.and_eq_true, Bool.and_eq_true, decide_eq_true_eq] at h
  obtain ⟨⟨h1, h2⟩, h3⟩ := h
  refine ⟨by show (1 : Int) ≠ 0; decide, fun pos => ?_⟩
  cases t with
  | nil => simp [letI'] at h2
  | cons c r =>
    rw [List.headD_cons] at h2
    show readP (c :: r) pos = _
    rw [readP, spanN_all partI _ h3]
    simp only [h2, if_true]
    rw [if_neg (by omega), List.take_length]
    rfl
theorem word_head {t : List UInt8} (h : isWord t = true) : t ≠ [] ∧ letI' (t.headD 0).toNat = true := by
  unfold isWord at h
  rw [Bool.and_eq_true, Bool.and_eq_true] at h
  refine ⟨?_, h.1.2⟩
  rintro rfl
  simp [letI'] at h
theorem let_not_dig {c : Int} (h : letI' c = true) : digI c = false := by
  simp only [letI', digI, Bool.or_eq_true, Bool.and_eq_true, decide_eq_true_eq, beq_iff_eq, Bool.and_eq_false_imp] at h ⊢
  intro h1
  rw [decide_eq_false_iff_not]
  omega
theorem dig_not_let {c : Int} (h : digI c = true) : letI' c = false := by
  cases h2 : letI' c with
  | false => rfl
  | true => rw [let_not_dig h2] at h; cases h
theorem dig_part {c : Int} (h : partI c = false) : digI c = false := by
  simp only [partI, Bool.or_eq_false_iff] at h; exact h.2

/-- The text does not go on with a letter or a digit. -/
def stops (l : List UInt8) : Bool := !partI (l.headD 32).toNat

theorem Lexes.word {t l : List UInt8} {ts : List Lx} (ht : isWord t = true) (hl : stops l = true) (h : Lexes l ts) : Lexes (t ++ l) (nmT t :: ts) := by
  refine Lexes.tok (x := nmT t) (lexOK_word ht) (fun pos => ?_) h
  obtain ⟨h1, h2⟩ := word_head ht
  cases l with
  | nil => rw [List.append_nil]
  | cons c r =>
    simp only [stops, List.headD_cons, Bool.not_eq_true'] at hl
    refine readP_app t c r pos h1 (fun _ => hl) (fun _ => dig_part hl) (fun h3 => ?_)
    rw [h2] at h3; cases h3

/-! ### Numerals -/
def digF (n : Nat) (l : List UInt8) : Nat := l.foldl (fun m c => m * 10 + (c.toNat - 48)) n
theorem digF_snoc (n : Nat) (l : List UInt8) (c : UInt8) : digF n (l ++ [c]) = digF n l * 10 + (c.toNat - 48) := by simp [digF]
theorem digF_cons (n : Nat) (c : UInt8) (l : List UInt8) : digF n (c :: l) = digF (n * 10 + (c.toNat - 48)) l := by rw [digF, digF, List.foldl_cons]
theorem digF_ge : ∀ (l : List UInt8) (n : Nat), n ≤ digF n l
  | [], n => Nat.le_refl _
  | c :: r, n => by rw [digF_cons]; exact Nat.le_trans (by omega) (digF_ge r _)
theorem dig_bd {c : UInt8} (h : digI c.toNat = true) : 48 ≤ c.toNat ∧ c.toNat ≤ 57 := by
  simp only [digI, Bool.and_eq_true, decide_eq_true_eq] at h; omega
theorem valN_some : ∀ (l : List UInt8) (n : Nat) (m : Int), allDig l → valN n l = some m → m = digF n l
  | [], n, m, _, h => by simp only [valN, Option.some.injEq] at h; rw [← h]; rfl
  | c :: r, n, m, ha, h => by
    obtain ⟨b1, b2⟩ := dig_bd (ha c (by simp))
    rw [valN] at h
    split at h
    · cases h
    · rw [digF_cons]
      refine valN_some r _ m (fun x hx => ha x (by simp [hx])) ?_
      rw [show (((n * 10 + (c.toNat - 48) : Nat)) : Int) = (n : Int) * 10 + ((c.toNat : Int) - 48) by omega]
      exact h
theorem valN_of : ∀ (l : List UInt8) (n : Nat), allDig l → digF n l ≤ 1099511627776 → valN n l = some (digF n l : Int)
  | [], n, _, _ => rfl
  | c :: r, n, ha, h => by
    obtain ⟨b1, b2⟩ := dig_bd (ha c (by simp))
    rw [digF_cons] at h
    have hg := digF_ge r (n * 10 + (c.toNat - 48))
    have e : (((n * 10 + (c.toNat - 48) : Nat)) : Int) = (n : Int) * 10 + ((c.toNat : Int) - 48) := by omega
    have ih := valN_of r _ (fun x hx => ha x (by simp [hx])) h
    rw [e] at ih
    rw [valN, if_neg (by omega), digF_cons]
    exact ih
theorem ofNat_dig {d : Nat} (h : d < 10) : (UInt8.ofNat (48 + d)).toNat = 48 + d := by
  rw [UInt8.toNat_ofNat']; omega
theorem dec_dig : ∀ (n u : Nat), u ≤ n → allDig (Go.Lib.decDigits u) ∧ digF 0 (Go.Lib.decDigits u) = u ∧ Go.Lib.decDigits u ≠ [] ∧ (((Go.Lib.decDigits u).headD 0).toNat = 48 → u = 0) := by
  intro n
  induction n with
  | zero =>
    intro u hu
    obtain rfl : u = 0 := by omega
    rw [Go.Lib.decDigits, dif_pos (by decide)]
    refine ⟨?_, by decide, by simp, fun _ => rfl⟩
    intro c hc
    rw [List.mem_singleton.1 hc]; decide
  | succ n ih =>
    intro u hu
    rw [Go.Lib.decDigits]
    by_cases h10 : u < 10
    · rw [dif_pos h10]
      have e := ofNat_dig h10
      refine ⟨?_, ?_, by simp, ?_⟩
      · intro c hc
        rw [List.mem_singleton.1 hc, e]
        simp only [digI, Bool.and_eq_true, decide_eq_true_eq]; omega
      · simp only [digF, List.foldl_cons, List.foldl_nil, e]; omega
      · intro h; simp only [List.headD_cons, e] at h; omega
    · rw [dif_neg h10]
      obtain ⟨i1, i2, i3, i4⟩ := ih (u / 10) (by omega)
      have e := ofNat_dig (Nat.mod_lt u (by decide : 10 > 0))
      refine ⟨?_, ?_, by simp, ?_⟩
      · intro c hc
        rcases List.mem_append.1 hc with hc | hc
        · exact i1 c hc
        · rw [List.mem_singleton.1 hc, e]
          simp only [digI, Bool.and_eq_true, decide_eq_true_eq]; omega
      · rw [digF_snoc, i2, e]; omega
      · intro h
        cases hd : Go.Lib.decDigits (u / 10) with
        | nil => exact absurd hd i3
        | cons a q =>
          rw [hd, List.cons_append, List.headD_cons] at h
          have := i4 (by rw [hd]; exact h)
          omega
theorem dec_of : ∀ (n : Nat) (t : List UInt8), t.length ≤ n → allDig t → t ≠ [] → (1 < t.length → (t.headD 0).toNat ≠ 48) → Go.Lib.decDigits (digF 0 t) = t := by
  intro n
  induction n with
  | zero => intro t hl _ hne _; exact absurd (List.length_eq_zero_iff.1 (by omega)) hne
  | succ n ih =>
    intro t hl ha hne hh
    obtain ⟨s, c, rfl⟩ : ∃ s c, t = s ++ [c] := ⟨_, _, (List.dropLast_concat_getLast hne).symm⟩
    obtain ⟨b1, b2⟩ := dig_bd (ha c (by simp))
    have ec : UInt8.ofNat (48 + (c.toNat - 48)) = c := by rw [show 48 + (c.toNat - 48) = c.toNat by omega, UInt8.ofNat_toNat]
    rw [digF_snoc]
    cases s with
    | nil =>
      simp only [digF, List.foldl_nil, List.nil_append, Nat.zero_mul, Nat.zero_add]
      rw [Go.Lib.decDigits, dif_pos (by omega), ec]
    | cons a q =>
      have hh1 := hh (by simp)
      simp only [List.cons_append, List.headD_cons] at hh1
      obtain ⟨a1, a2⟩ := dig_bd (ha a (by simp))
      have hg := digF_ge q (0 * 10 + (a.toNat - 48))
      rw [← digF_cons] at hg
      have e := ih (a :: q) (by simp at hl ⊢; omega) (fun x hx => ha x (List.mem_append_left _ hx)) (by simp) (fun _ => by simpa using hh1)
      rw [Go.Lib.decDigits, dif_neg (by omega), show (digF 0 (a :: q) * 10 + (c.toNat - 48)) / 10 = digF 0 (a :: q) by omega, show (digF 0 (a :: q) * 10 + (c.toNat - 48)) % 10 = c.toNat - 48 by omega, e, ec]

theorem value_itoa {t : List UInt8} {n : Int} (ha : allDig t) (hne : t ≠ []) (h : valueP t = (n, 0)) : t = Go.Lib.itoa n ∧ 0 ≤ n := by
  unfold valueP at h
  split at h
  · cases h
  · rename_i hc
    cases hv : valN 0 t with
    | none => rw [hv] at h; cases h
    | some m =>
      rw [hv] at h
      obtain rfl : m = n := by simpa [valPair] using h
      have hm := valN_some t 0 m ha hv
      subst hm
      refine ⟨?_, by omega⟩
      rw [Go.Lib.itoa, if_neg (by omega), Int.toNat_natCast, dec_of t.length t (Nat.le_refl _) ha hne]
      intro h1 h2
      apply hc
      refine ⟨h1, ?_⟩
      cases t with
      | nil => exact absurd rfl hne
      | cons a q => simpa using h2
theorem itoa_value {n : Int} (h0 : 0 ≤ n) (h1 : n ≤ 1099511627776) : allDig (Go.Lib.itoa n) ∧ Go.Lib.itoa n ≠ [] ∧ valueP (Go.Lib.itoa n) = (n, 0) := by
  obtain ⟨i1, i2, i3, i4⟩ := dec_dig n.toNat n.toNat (Nat.le_refl _)
  rw [Go.Lib.itoa, if_neg (by omega)]
  refine ⟨i1, i3, ?_⟩
  have hv := valN_of _ 0 i1 (by rw [i2]; omega)
  rw [i2] at hv
  rw [valueP, if_neg, show valN 0 (Go.Lib.decDigits n.toNat) = some ((n.toNat : Nat) : Int) from hv]
  · simp only [valPair]
    rw [Int.toNat_of_nonneg h0]
  · rintro ⟨h2, h3⟩
    have : n.toNat = 0 := by
      apply i4
      cases hd : Go.Lib.decDigits n.toNat with
      | nil => exact absurd hd i3
      | cons a q => rw [hd] at h3; simpa using h3
    rw [this, Go.Lib.decDigits, dif_pos (by decide)] at h2
    simp at h2
theorem allDig_head {t : List UInt8} (ha : allDig t) (hne : t ≠ []) : digI (t.headD 0).toNat = true := by
  cases t with
  | nil => exact absurd rfl hne
  | cons c r => exact ha c (by simp)
theorem lexOK_num {n : Int} (h0 : 0 ≤ n) (h1 : n ≤ 1099511627776) : lexOK (nuT n) := by
  obtain ⟨ha, hne, hv⟩ := itoa_value h0 h1
  refine ⟨by show (2 : Int) ≠ 0; decide, fun pos => ?_⟩
  show readP (Go.Lib.itoa n) pos = (⟨2, Go.Lib.itoa n, n, pos⟩, 0)
  obtain ⟨t, ht⟩ : ∃ t, Go.Lib.itoa n = t := ⟨_, rfl⟩
  rw [ht] at ha hne hv ⊢
  have hs : spanN digI t = t.length := spanN_all digI t (List.all_eq_true.2 ha)
  have hd := allDig_head ha hne
  cases t with
  | nil => exact absurd rfl hne
  | cons c r =>
    rw [List.headD_cons] at hd
    rw [readP, hs, List.take_length, hv]
    simp only [dig_not_let hd, hd, Bool.false_eq_true, if_false, if_true]
theorem Lexes.num {n : Int} {l : List UInt8} {ts : List Lx} (h0 : 0 ≤ n) (h1 : n ≤ 1099511627776) (hl : digI (l.headD 32).toNat = false) (h : Lexes l ts) : Lexes (Go.Lib.itoa n ++ l) (nuT n :: ts) := by
  refine Lexes.tok (x := nuT n) (lexOK_num h0 h1) (fun pos => ?_) h
  show readP (Go.Lib.itoa n ++ l) pos = readP (Go.Lib.itoa n) pos
  obtain ⟨ha, hne, _⟩ := itoa_value h0 h1
  have hd := allDig_head ha hne
  cases l with
  | nil => rw [List.append_nil]
  | cons c r =>
    rw [List.headD_cons] at hl
    refine readP_app _ c r pos hne (fun h3 => ?_) (fun _ => hl) (fun _ h3 => ?_)
    · rw [dig_not_let hd] at h3; cases h3
    · rw [hd] at h3; cases h3
theorem stops_dig {l : List UInt8} (h : stops l = true) : digI (l.headD 32).toNat = false := by
  rw [stops, Bool.not_eq_true'] at h; exact dig_part h

/-! ### Marks -/
theorem lexOK_mark {m : List UInt8} (h : m ∈ marks) : lexOK (mkT m) := by
  refine ⟨by show (3 : Int) ≠ 0; decide, fun pos => ?_⟩
  simp only [marks, List.mem_cons, List.not_mem_nil, or_false] at h
  rcases h with rfl | rfl | rfl | rfl | rfl | rfl | rfl | rfl | rfl | rfl | rfl | rfl | rfl | rfl | rfl | rfl | rfl | rfl | rfl <;> rfl
theorem marks_head : ∀ m ∈ marks, m ≠ [] ∧ letI' (m.headD 0).toNat = false ∧ digI (m.headD 0).toNat = false := by decide
theorem Lexes.mark {m l : List UInt8} {ts : List Lx} (hm : m ∈ marks) (hl : m.length = 1 → isMarkP (m ++ [l.headD 32]) = false) (h : Lexes l ts) : Lexes (m ++ l) (mkT m :: ts) := by
  refine Lexes.tok (x := mkT m) (lexOK_mark hm) (fun pos => ?_) h
  show readP (m ++ l) pos = readP m pos
  obtain ⟨h1, h2, h3⟩ := marks_head m hm
  cases l with
  | nil => rw [List.append_nil]
  | cons c r =>
    refine readP_app _ c r pos h1 (fun h4 => ?_) (fun h4 => ?_) (fun _ _ h4 => ?_)
    · rw [h2] at h4; cases h4
    · rw [h3] at h4; cases h4
    · simpa using hl h4
/-- Marks of one byte that begin no longer mark. -/
theorem mark_alone (d c : UInt8) (h : d.toNat ≠ 60 ∧ d.toNat ≠ 62 ∧ d.toNat ≠ 33 ∧ d.toNat ≠ 46) : isMarkP ([d] ++ [c]) = false := by
  rw [← Bool.not_eq_true]
  intro hm
  simp only [isMarkP, List.contains_iff_mem, marks, List.cons_append, List.nil_append, List.mem_cons, List.cons.injEq, List.not_mem_nil, or_false, and_true, reduceCtorEq, and_false, or_false] at hm
  rcases hm with ⟨rfl, _⟩ | ⟨rfl, _⟩ | ⟨rfl, _⟩ | ⟨rfl, _⟩ <;> exact absurd h (by decide)

/-! ### What a lexeme is -/
theorem lexOK_canon {x : Lx} (h : lexOK x) : (x.kind = 1 ∧ x.num = 0) ∨ (x.kind = 2 ∧ x.text = Go.Lib.itoa x.num ∧ 0 ≤ x.num) ∨ (x.kind = 3 ∧ x.num = 0) := by
  have h2 := h.2 0
  obtain ⟨kind, text, num, off⟩ := x
  simp only at h2 ⊢
  cases text with
  | nil => cases (congrArg Prod.snd h2 : (5 : Int) = 0)
  | cons c r =>
    rw [readP] at h2
    by_cases hc : letI' c.toNat = true
    · simp only [hc, if_true] at h2
      split at h2
      · cases (congrArg Prod.snd h2 : (6 : Int) = 0)
      · have e := congrArg Prod.fst h2
        simp only [Lx.mk.injEq] at e
        exact .inl ⟨e.1.symm, e.2.2.1.symm⟩
    · simp only [hc, Bool.false_eq_true, if_false] at h2
      by_cases hd : digI c.toNat = true
      · simp only [hd, if_true] at h2
        split at h2
        · rename_i hv
          have e := congrArg Prod.fst h2
          simp only [Lx.mk.injEq] at e
          obtain ⟨e1, e2, e3, _⟩ := e
          have ha := span_dig_all (c :: r)
          rw [e2] at ha hv e3
          have := value_itoa (n := num) ha (by simp) (Prod.ext e3 hv)
          exact .inr (.inl ⟨e1.symm, this⟩)
        · rename_i hv
          exact absurd (congrArg Prod.snd h2) hv
      · simp only [hd, Bool.false_eq_true, if_false] at h2
        split at h2
        · have e := congrArg Prod.fst h2
          simp only [Lx.mk.injEq] at e
          exact .inr (.inr ⟨e.1.symm, e.2.2.1.symm⟩)
        · split at h2
          · have e := congrArg Prod.fst h2
            simp only [Lx.mk.injEq] at e
            exact .inr (.inr ⟨e.1.symm, e.2.2.1.symm⟩)
          · cases (congrArg Prod.snd h2 : (5 : Int) = 0)

theorem lxAt_bare (xs : List Lx) (k : Nat) : lxAt (xs.map Lx.bare) k = (lxAt xs k).bare := by
  rw [lxAt, lxAt, List.getElem?_map]
  cases xs[k]? <;> rfl
theorem lxAt_drop (xs : List Lx) (k j : Nat) : lxAt (xs.drop k) j = lxAt xs (k + j) := by rw [lxAt, lxAt, List.getElem?_drop]
theorem lxAt_lt {xs : List Lx} {k : Nat} (h : (lxAt xs k).kind ≠ 0) : k < xs.length := by
  rw [lxAt] at h
  cases hx : xs[k]? with
  | none => rw [hx] at h; exact absurd rfl h
  | some x => exact (List.getElem?_eq_some_iff.1 hx).1
theorem drop_lxAt {xs : List Lx} {k : Nat} (h : k < xs.length) : xs.drop k = lxAt xs k :: xs.drop (k + 1) := by
  rw [List.drop_eq_getElem_cons h, lxAt, List.getElem?_eq_getElem h]; rfl

end Saw
