/-
  Plain: the text of a catalog is parsed back as the catalog; what is parsed has the lexemes of its text.
-/
import Derived.Test.YtadflenmdfcflaaDoorPlainC
import Derived.Test.YtadflenmdfcflaaDoorWoodI
namespace Saw

def pairT (p : List UInt8 × Int) : List Lx := [nmT p.1, nuT p.2]
/-- The lexemes of a species' text. -/
def spToks (x : Sp) : List Lx := nmT speciesW :: nmT x.name :: ((wordsL.zip x.nums).flatMap pairT ++ [mkT [59]])

theorem isName_word {t : List UInt8} (h : isNameP t = true) : isWord t = true := by
  cases t with
  | nil => cases h
  | cons c r =>
    rw [isNameP, Bool.and_eq_true, Bool.and_eq_true] at h
    obtain ⟨⟨h1, h2⟩, h3⟩ := h
    have hs : ∀ c : Int, smallI c = true → letI' c = true := fun c hc => by simp only [smallI, letI', Bool.or_eq_true] at hc ⊢; exact .inl (.inl hc)
    have hn : ∀ c : Int, nameI c = true → partI c = true := fun c hc => by
      simp only [nameI, partI, Bool.or_eq_true] at hc ⊢
      rcases hc with (hc | hc) | hc
      · exact .inl (hs c hc)
      · exact .inr hc
      · refine .inl ?_
        simp only [letI', Bool.or_eq_true]
        exact .inr hc
    rw [isWord, h1, List.headD_cons, hs _ h2, List.all_cons, Bool.true_and, Bool.true_and, Bool.and_eq_true]
    refine ⟨?_, ?_⟩
    · simp only [partI, Bool.or_eq_true]; exact .inl (hs _ h2)
    · rw [List.all_eq_true] at h3 ⊢
      exact fun x hx => hn _ (h3 x hx)

theorem Lexes.pairs {r : List UInt8} {ts : List Lx} (hr : stops r = true) (h : Lexes r ts) : ∀ ps : List (List UInt8 × Int), (∀ p ∈ ps, isWord p.1 = true ∧ 0 ≤ p.2 ∧ p.2 ≤ 1099511627776) → Lexes (ps.flatMap wordNum ++ r) (ps.flatMap pairT ++ ts) ∧ stops (ps.flatMap wordNum ++ r) = true
  | [], _ => ⟨h, hr⟩
  | p :: ps, hp => by
    obtain ⟨i1, i2⟩ := Lexes.pairs hr h ps (fun q hq => hp q (by simp [hq]))
    obtain ⟨p1, p2, p3⟩ := hp p (by simp)
    rw [List.flatMap_cons, List.flatMap_cons, List.append_assoc, List.append_assoc]
    have e : wordNum p ++ (ps.flatMap wordNum ++ r) = 32 :: (p.1 ++ (32 :: (Go.Lib.itoa p.2 ++ (ps.flatMap wordNum ++ r)))) := by simp [wordNum]
    rw [e]
    exact ⟨Lexes.blank (.inl rfl) (Lexes.word p1 rfl (Lexes.blank (.inl rfl) (Lexes.num p2 p3 (stops_dig i2) i1))), rfl⟩

theorem words_word : ∀ w ∈ wordsL, isWord w = true := by decide
theorem Lexes.sp {x : Sp} {l : List UInt8} {ts : List Lx} (h1 : isNameP x.name = true) (h2 : inRangeP x = true) (h : Lexes l ts) : Lexes (spText x ++ l) (spToks x ++ ts) := by
  have hb := inRange_bd h2
  obtain ⟨i1, i2⟩ := Lexes.pairs (r := 59 :: 10 :: l) (ts := mkT [59] :: ts) rfl (Lexes.mark (m := [59]) (l := 10 :: l) (by decide) (fun _ => mark_alone 59 _ (by decide)) (Lexes.blank (.inr rfl) h)) (wordsL.zip x.nums) (fun p hp => by
    have hz := List.of_mem_zip hp
    have := hb _ hz.2
    exact ⟨words_word _ hz.1, this.1, by omega⟩)
  have e : spText x ++ l = speciesW ++ (32 :: (x.name ++ ((wordsL.zip x.nums).flatMap wordNum ++ 59 :: 10 :: l))) := by simp [spText, spHead]
  have e2 : spToks x ++ ts = nmT speciesW :: nmT x.name :: ((wordsL.zip x.nums).flatMap pairT ++ mkT [59] :: ts) := by simp [spToks]
  rw [e, e2]
  exact Lexes.word (by decide) rfl (Lexes.blank (.inl rfl) (Lexes.word (isName_word h1) i2 i1))

theorem Lexes.sps : ∀ l : List Sp, (∀ x ∈ l, isNameP x.name = true ∧ inRangeP x = true) → Lexes (l.flatMap spText) (l.flatMap spToks)
  | [], _ => Lexes.nil
  | x :: r, h => by
    rw [List.flatMap_cons, List.flatMap_cons]
    exact Lexes.sp (h x (by simp)).1 (h x (by simp)).2 (Lexes.sps r (fun y hy => h y (by simp [hy])))

theorem check_mem {l : List Sp} (h : checkSp l = 0) : ∀ x ∈ l, isNameP x.name = true ∧ inRangeP x = true := fun x hx => by
  obtain ⟨i, hi, rfl⟩ := List.getElem_of_mem hx
  obtain ⟨y, hy, h1, _, h3⟩ := (checkSp_all h).2 i hi
  rw [List.getElem?_eq_getElem hi] at hy
  injection hy with hy
  subst hy
  exact ⟨h1, h3⟩
theorem checkFrom_ok {l : List Sp} : ∀ (n k : Nat), l.length - k ≤ n → (∀ i x, l[i]? = some x → isNameP x.name = true ∧ findSp (l.take i) x.name = none ∧ inRangeP x = true) → checkFrom l k = 0 := by
  intro n
  induction n with
  | zero => intro k hk _; rw [checkFrom_eq, dif_neg (by omega)]
  | succ n ih =>
    intro k hk h
    rw [checkFrom_eq]
    by_cases hkl : k < l.length
    · obtain ⟨h1, h2, h3⟩ := h k _ (List.getElem?_eq_getElem hkl)
      rw [dif_pos hkl, if_neg (by rw [h1]; decide), if_neg (by rw [h2]; decide), if_neg (by rw [h3]; decide)]
      exact ih (k + 1) (by omega) h
    · rw [dif_neg hkl]
theorem check_head {a b : List Sp} (h : checkSp (a ++ b) = 0) : checkSp a = 0 := by
  obtain ⟨h1, h2⟩ := checkSp_all h
  rw [List.length_append] at h1 h2
  rw [checkSp, if_neg (by omega)]
  refine checkFrom_ok _ 0 (Nat.le_refl _) (fun i x hx => ?_)
  have hi := (List.getElem?_eq_some_iff.1 hx).1
  obtain ⟨y, hy, q1, q2, q3⟩ := h2 i (by omega)
  rw [List.getElem?_append_left hi, hx] at hy
  injection hy with hy
  subst hy
  rw [List.take_append_of_le_length (by omega)] at q2
  exact ⟨q1, q2, q3⟩

theorem spText_len {x : Sp} (h1 : isNameP x.name = true) (h2 : inRangeP x = true) : (spText x).length ≤ 506 := by
  have hn := (isNameP_len h1).2
  have hb := inRange_bd h2
  have hf : ((wordsL.zip x.nums).flatMap wordNum).length ≤ 480 := by
    have key : ∀ ps : List (List UInt8 × Int), (∀ p ∈ ps, p.1.length ≤ 8 ∧ 0 ≤ p.2 ∧ p.2 ≤ 1000000) → (ps.flatMap wordNum).length ≤ 40 * ps.length := by
      intro ps
      induction ps with
      | nil => intro _; simp
      | cons p ps ih =>
        intro hp
        have i1 := ih (fun q hq => hp q (by simp [hq]))
        obtain ⟨a, b, c⟩ := hp p (by simp)
        have := wordNum_len p a b c
        rw [List.flatMap_cons, List.length_append, List.length_cons]
        omega
    have hw : ∀ w ∈ wordsL, w.length ≤ 8 := by decide
    have := key (wordsL.zip x.nums) (fun p hp => by
      have hz := List.of_mem_zip hp
      exact ⟨hw _ hz.1, hb _ hz.2⟩)
    have hl : (wordsL.zip x.nums).length = 12 := rfl
    omega
  have hs : speciesW.length = 7 := rfl
  simp only [spText, spHead, List.length_append, List.length_cons, List.length_nil]
  omega
theorem format_len {l : List Sp} (h : checkSp l = 0) : (formatSp l).length ≤ 4048 ∧ (l ≠ [] → 0 < (formatSp l).length) := by
  have hm := check_mem h
  have h8 := (checkSp_all h).1
  rw [formatSp, if_pos h]
  have key : ∀ l : List Sp, (∀ x ∈ l, isNameP x.name = true ∧ inRangeP x = true) → (l.flatMap spText).length ≤ 506 * l.length := by
    intro l
    induction l with
    | nil => intro _; simp
    | cons x r ih =>
      intro hx
      have := ih (fun y hy => hx y (by simp [hy]))
      have := spText_len (hx x (by simp)).1 (hx x (by simp)).2
      rw [List.flatMap_cons, List.length_append, List.length_cons]
      omega
  have := key l hm
  refine ⟨by omega, fun hne => ?_⟩
  cases l with
  | nil => exact absurd rfl hne
  | cons x r => simp [spText, spHead, speciesW]

/-! ### Statements -/
theorem readNums_bare (xs : List Lx) : ∀ (ws : List (List UInt8)) (k : Nat) (acc : List Int), readNums (xs.map Lx.bare) ws k acc = readNums xs ws k acc
  | [], _, _ => rfl
  | w :: ws, k, acc => by
    rw [readNums, readNums, lxAt_bare, lxAt_bare, ← readNums_bare xs ws]
    rfl
theorem stmtP_bare (xs : List Lx) (k : Nat) : stmtP (xs.map Lx.bare) k = stmtP xs k := by
  unfold stmtP
  rw [readNums_bare, lxAt_bare, lxAt_bare, lxAt_bare]
  rfl
theorem readNums_drop (xs : List Lx) (k : Nat) : ∀ (ws : List (List UInt8)) (j : Nat) (acc : List Int), readNums xs ws (k + j) acc = ((readNums (xs.drop k) ws j acc).1, k + (readNums (xs.drop k) ws j acc).2.1, (readNums (xs.drop k) ws j acc).2.2)
  | [], _, _ => rfl
  | w :: ws, j, acc => by
    rw [readNums, readNums, lxAt_drop, lxAt_drop, Nat.add_assoc, Nat.add_assoc, readNums_drop xs k ws (j + 2)]
    split
    · split <;> rfl
    · rfl
theorem stmtP_drop (xs : List Lx) (k : Nat) : stmtP xs k = ((stmtP (xs.drop k) 0).1, k + (stmtP (xs.drop k) 0).2.1, (stmtP (xs.drop k) 0).2.2) := by
  unfold stmtP
  have e0 : lxAt (xs.drop k) 0 = lxAt xs k := by rw [lxAt_drop, Nat.add_zero]
  have e1 : lxAt (xs.drop k) (0 + 1) = lxAt xs (k + 1) := lxAt_drop xs k 1
  obtain ⟨ns, q, ok, hR⟩ : ∃ ns q ok, readNums (xs.drop k) wordsL (0 + 2) [] = (ns, q, ok) := ⟨_, _, _, rfl⟩
  have hR2 : readNums xs wordsL (k + 2) [] = (ns, k + q, ok) := by
    have h := readNums_drop xs k wordsL 2 []
    rw [show readNums (xs.drop k) wordsL 2 [] = (ns, q, ok) from hR] at h
    exact h
  rw [e0, e1, hR, hR2]
  simp only [lxAt_drop]
  by_cases h1 : lxIs (lxAt xs k) 1 speciesW = true
  · rw [if_pos h1, if_pos h1]
    by_cases h2 : ((lxAt xs (k + 1)).kind == 1) = true
    · rw [if_pos h2, if_pos h2]
      cases ok with
      | false => rfl
      | true =>
        by_cases h3 : lxIs (lxAt xs (k + q)) 3 [59] = true
        · simp only [if_true, h3]; rfl
        · simp only [if_true, h3]; rfl
    · rw [if_neg h2, if_neg h2]
  · rw [if_neg h1, if_neg h1]; rfl
theorem stmtP_toks (x : Sp) (r : List Lx) : stmtP (spToks x ++ r) 0 = (x, 27, true) := by
  cases x
  kernel_rfl
theorem spToks_len (x : Sp) : (spToks x).length = 27 := rfl

theorem parseAll_toks {xs : List Lx} {p : Int} : ∀ (rest : List Sp) (n k : Nat) (acc : List Sp), (xs.drop k).map Lx.bare = rest.flatMap spToks ++ [(lxEnd p).bare] → checkSp (acc ++ rest) = 0 → rest.length < n → parseAll xs n k acc = (acc ++ rest, 0, 0)
  | [], n, k, acc, h, _, hn => by
    obtain ⟨n', rfl⟩ : ∃ n', n = n' + 1 := ⟨n - 1, by simp at hn; omega⟩
    have hk : (lxAt xs k).kind = 0 := by
      have e := lxAt_bare (xs.drop k) 0
      rw [h, lxAt_drop, Nat.add_zero] at e
      have := congrArg Lx.kind e
      exact this.symm
    rw [parseAll, if_pos hk, List.append_nil]
  | x :: rest, n, k, acc, h, hc, hn => by
    obtain ⟨n', rfl⟩ : ∃ n', n = n' + 1 := ⟨n - 1, by simp at hn; omega⟩
    rw [List.flatMap_cons, List.append_assoc] at h
    have hk : (lxAt xs k).kind = 1 := by
      have e := lxAt_bare (xs.drop k) 0
      rw [h, lxAt_drop, Nat.add_zero] at e
      have := congrArg Lx.kind e
      exact this.symm
    have hs : stmtP xs k = (x, k + 27, true) := by
      rw [stmtP_drop, ← stmtP_bare, h, stmtP_toks]
    have hc1 : checkSp (acc ++ [x]) = 0 := check_head (b := rest) (by rw [List.append_assoc]; exact hc)
    rw [parseAll, if_neg (by rw [hk]; decide), hs, if_neg (by simp), if_neg (by simp [hc1])]
    rw [parseAll_toks (p := p) rest n' (k + 27) (acc ++ [x]) ?_ (by rw [List.append_assoc]; exact hc) (by simp at hn; omega)]
    · simp
    · rw [← List.drop_drop, List.map_drop, h, List.drop_left' (spToks_len x)]

/-- The text of a catalog is parsed back as the catalog. -/
theorem parse_format {l : List Sp} (h : checkSp l = 0) : parseSp (formatSp l) = (l, 0, 0) := by
  have hlen := (format_len h).1
  have hx := Lexes.sps l (check_mem h)
  have hf : formatSp l = l.flatMap spText := by rw [formatSp, if_pos h]
  rw [← hf] at hx
  obtain ⟨ys, h1, h2, h3⟩ := hx 0
  have hsc : scanP (formatSp l) = (ys ++ [lxEnd (0 + (formatSp l).length)], 0, 0) := by rw [scanP_eq _ (by omega), h1]
  have hl8 := (checkSp_all h).1
  have hyl : l.length ≤ ys.length := by
    have := congrArg List.length h2
    rw [List.length_map] at this
    rw [this]
    clear this h1 h2 h3 hsc hf hx hlen h hl8
    induction l with
    | nil => simp
    | cons x r ih => rw [List.flatMap_cons, List.length_append, spToks_len, List.length_cons]; omega
  have hp : parseAll (ys ++ [lxEnd (0 + (formatSp l).length)]) (ys ++ [lxEnd (0 + (formatSp l).length)]).length 0 [] = (l, 0, 0) := by
    rw [parseAll_toks (p := 0 + (formatSp l).length) l _ 0 [] ?_ h ?_]
    · rfl
    · rw [List.drop_zero, List.map_append, h2]; rfl
    · rw [List.length_append, List.length_singleton]; omega
  rw [parseSp, hsc]
  simp only [ne_eq, not_true_eq_false, if_false, hp]

/-! ### What is parsed -/
def CanonL (xs : List Lx) : Prop := ∀ x ∈ xs, x.kind ≠ 0 → lexOK x
theorem lxAt_canon {xs : List Lx} (h : CanonL xs) {k : Nat} (hk : (lxAt xs k).kind ≠ 0) : lexOK (lxAt xs k) := h _ (List.mem_of_getElem? (lxAt_some (lxAt_lt hk))) hk
theorem bare_name {x : Lx} {t : List UInt8} (h : lexOK x) (h1 : x.kind = 1) (h2 : x.text = t) : x.bare = nmT t := by
  rcases lexOK_canon h with ⟨_, h3⟩ | ⟨h3, _⟩ | ⟨h3, _⟩
  · cases x; simp only at h1 h2 h3; subst h1 h2 h3; rfl
  · rw [h1] at h3; cases h3
  · rw [h1] at h3; cases h3
theorem bare_num {x : Lx} (h : lexOK x) (h1 : x.kind = 2) : x.bare = nuT x.num := by
  rcases lexOK_canon h with ⟨h3, _⟩ | ⟨_, h3, _⟩ | ⟨h3, _⟩
  · rw [h1] at h3; cases h3
  · cases x; simp only at h1 h3; subst h1 h3; rfl
  · rw [h1] at h3; cases h3
theorem bare_mark {x : Lx} {t : List UInt8} (h : lexOK x) (h1 : x.kind = 3) (h2 : x.text = t) : x.bare = mkT t := by
  rcases lexOK_canon h with ⟨h3, _⟩ | ⟨h3, _⟩ | ⟨_, h3⟩
  · rw [h1] at h3; cases h3
  · rw [h1] at h3; cases h3
  · cases x; simp only at h1 h2 h3; subst h1 h2 h3; rfl
theorem lxIs_both {x : Lx} {k : Int} {t : List UInt8} (h : lxIs x k t = true) : x.kind = k ∧ x.text = t := by
  rw [lxIs, Bool.and_eq_true, beq_iff_eq, beq_iff_eq] at h; exact h

theorem readNums_inv {zs : List Lx} (hz : CanonL zs) : ∀ (ws : List (List UInt8)) (j : Nat) (acc ns : List Int) (p : Nat), readNums zs ws j acc = (ns, p, true) →
    ∃ ms, ns = acc ++ ms ∧ ms.length = ws.length ∧ (zs.drop j).map Lx.bare = (ws.zip ms).flatMap pairT ++ (zs.drop p).map Lx.bare
  | [], j, acc, ns, p, h => by
    simp only [readNums, Prod.mk.injEq, and_true] at h
    obtain ⟨rfl, rfl⟩ := h
    exact ⟨[], by simp, rfl, rfl⟩
  | w :: ws, j, acc, ns, p, h => by
    rw [readNums] at h
    by_cases h1 : lxIs (lxAt zs j) 1 w = true
    · rw [if_pos h1] at h
      by_cases h2 : ((lxAt zs (j + 1)).kind == 2) = true
      · rw [if_pos h2] at h
        obtain ⟨ms, e1, e2, e3⟩ := readNums_inv hz ws (j + 2) _ ns p h
        obtain ⟨k1, k2⟩ := lxIs_both h1
        have k3 := beq_iff_eq.1 h2
        have n1 : (lxAt zs j).kind ≠ 0 := by rw [k1]; decide
        have n2 : (lxAt zs (j + 1)).kind ≠ 0 := by rw [k3]; decide
        refine ⟨(lxAt zs (j + 1)).num :: ms, by rw [e1, List.append_assoc]; rfl, by simp [e2], ?_⟩
        rw [drop_lxAt (lxAt_lt n1), drop_lxAt (lxAt_lt n2), List.map_cons, List.map_cons, e3, bare_name (lxAt_canon hz n1) k1 k2, bare_num (lxAt_canon hz n2) k3]
        rfl
      · rw [if_neg h2] at h; cases h
    · rw [if_neg h1] at h; cases h
theorem mkSp_nums {t : List UInt8} {ns : List Int} (h : ns.length = 12) : (mkSp t ns).nums = ns := by
  match ns, h with
  | [_, _, _, _, _, _, _, _, _, _, _, _], _ => rfl
theorem stmt_inv {xs : List Lx} (hz : CanonL xs) {k p : Nat} {y : Sp} (h : stmtP xs k = (y, p, true)) : (xs.drop k).map Lx.bare = spToks y ++ (xs.drop p).map Lx.bare := by
  unfold stmtP at h
  by_cases h1 : lxIs (lxAt xs k) 1 speciesW = true
  · rw [if_pos h1] at h
    by_cases h2 : ((lxAt xs (k + 1)).kind == 1) = true
    · rw [if_pos h2] at h
      obtain ⟨ns, q, ok, hR⟩ : ∃ ns q ok, readNums xs wordsL (k + 2) [] = (ns, q, ok) := ⟨_, _, _, rfl⟩
      rw [hR] at h
      cases ok with
      | false => cases h
      | true =>
        simp only [if_true, Prod.mk.injEq] at h
        obtain ⟨rfl, hp, h3⟩ := h
        rw [if_pos h3] at hp
        subst hp
        obtain ⟨ms, e1, e2, e3⟩ := readNums_inv hz wordsL (k + 2) [] ns q hR
        rw [List.nil_append] at e1
        subst e1
        obtain ⟨k1, k2⟩ := lxIs_both h1
        have k3 := beq_iff_eq.1 h2
        obtain ⟨k5, k6⟩ := lxIs_both h3
        have n1 : (lxAt xs k).kind ≠ 0 := by rw [k1]; decide
        have n2 : (lxAt xs (k + 1)).kind ≠ 0 := by rw [k3]; decide
        have n3 : (lxAt xs q).kind ≠ 0 := by rw [k5]; decide
        rw [drop_lxAt (lxAt_lt n1), drop_lxAt (lxAt_lt n2), List.map_cons, List.map_cons, e3, drop_lxAt (lxAt_lt n3), List.map_cons, bare_name (lxAt_canon hz n1) k1 k2, bare_name (lxAt_canon hz n2) k3 rfl, bare_mark (lxAt_canon hz n3) k5 k6]
        rw [spToks, mkSp_nums e2]
        simp [mkSp]
    · rw [if_neg h2] at h; cases h
  · rw [if_neg h1] at h; cases h

theorem parseAll_inv {ys : List Lx} {pe : Int} (hk : ∀ y ∈ ys, y.kind ≠ 0) (hz : CanonL (ys ++ [lxEnd pe])) : ∀ (n k : Nat) (acc l : List Sp), (ys ++ [lxEnd pe]).length - k ≤ n → k < (ys ++ [lxEnd pe]).length → parseAll (ys ++ [lxEnd pe]) n k acc = (l, 0, 0) → checkSp acc = 0 →
    ∃ rest, l = acc ++ rest ∧ ((ys ++ [lxEnd pe]).drop k).map Lx.bare = rest.flatMap spToks ++ [(lxEnd 0).bare] ∧ checkSp l = 0
  | 0, k, acc, l, hn, hkl, _, _ => by omega
  | n + 1, k, acc, l, hn, hkl, h, hc => by
    rw [parseAll] at h
    by_cases h0 : (lxAt (ys ++ [lxEnd pe]) k).kind = 0
    · rw [if_pos h0] at h
      obtain rfl : acc = l := by simpa using h
      refine ⟨[], by simp, ?_, hc⟩
      have hky : k = ys.length := by
        rw [List.length_append, List.length_singleton] at hkl
        by_cases hlt : k < ys.length
        · rw [lxAt, List.getElem?_append_left hlt, List.getElem?_eq_getElem hlt] at h0
          exact absurd h0 (hk _ (List.getElem_mem hlt))
        · omega
      rw [hky, List.drop_left]
      rfl
    · rw [if_neg h0] at h
      obtain ⟨y, p, ok, hs⟩ : ∃ y p ok, stmtP (ys ++ [lxEnd pe]) k = (y, p, ok) := ⟨_, _, _, rfl⟩
      have hin := stmtP_in (ends_of (p := pe) hk) hkl
      have hgt := stmtP_gt (xs := ys ++ [lxEnd pe]) (k := k)
      rw [hs] at h hin hgt
      cases ok with
      | false => simp at h
      | true =>
        simp only [Bool.true_eq_false, if_false] at h
        by_cases hc1 : checkSp (acc ++ [y]) = 0
        · rw [if_neg (by simp [hc1])] at h
          have hgt' := hgt rfl
          simp only at hin hgt'
          obtain ⟨rest, e1, e2, e3⟩ := parseAll_inv hk hz n p (acc ++ [y]) l (by omega) hin h hc1
          refine ⟨y :: rest, by rw [e1, List.append_assoc]; rfl, ?_, e3⟩
          rw [stmt_inv hz hs, e2, List.flatMap_cons, List.append_assoc]
        · rw [if_pos hc1] at h
          exact absurd (congrArg (·.2.1) h) hc1

theorem parseAll_zero {xs : List Lx} : ∀ (n k : Nat) (acc l : List Sp) (a : Int), parseAll xs n k acc = (l, 0, a) → a = 0
  | 0, _, _, _, _, h => by simp only [parseAll, Prod.mk.injEq, true_and] at h; exact h.2.symm
  | n + 1, k, acc, l, a, h => by
    rw [parseAll] at h
    split at h
    · simp only [Prod.mk.injEq, true_and] at h; exact h.2.symm
    · split at h
      · simp at h
      · split at h
        · rename_i hc
          simp only [Prod.mk.injEq] at h
          exact absurd h.2.1 hc
        · exact parseAll_zero n _ _ _ _ h

theorem scanP_canon {s : List UInt8} {xs : List Lx} (h : scanP s = (xs, 0, 0)) : ∃ ys, xs = ys ++ [lxEnd s.length] ∧ (∀ y ∈ ys, y.kind ≠ 0) ∧ CanonL xs ∧ s.length ≤ 8000 := by
  obtain ⟨h1, _, ⟨ys, h2, h3⟩, _, _⟩ := scanP_good s (by rw [h])
  rw [h] at h2
  simp only at h2
  refine ⟨ys, h2, h3, ?_, h1⟩
  rw [scanP_eq s h1] at h
  intro x hx hk
  obtain ⟨zs, hz1, hz2, _⟩ := scanS_lexOK _ s 0 (Nat.le_refl _) (by rw [h])
  rw [h] at hz1
  simp only at hz1
  rw [hz1] at hx
  rcases List.mem_append.1 hx with hx | hx
  · exact hz2 x hx
  · rw [List.mem_singleton.1 hx] at hk; exact absurd rfl hk

/-- What is accepted is a catalog, and its text has the same lexemes. -/
theorem parse_printed {s : List UInt8} {l : List Sp} {a : Int} (h : parseSp s = (l, 0, a)) : a = 0 ∧ checkSp l = 0 ∧ ∃ xs bs, scanP s = (xs, 0, 0) ∧ scanP (formatSp l) = (bs, 0, 0) ∧ sameP xs bs = true := by
  obtain ⟨xs, e, at_, hsc⟩ : ∃ xs e at_, scanP s = (xs, e, at_) := ⟨_, _, _, rfl⟩
  unfold parseSp at h
  rw [hsc] at h
  simp only at h
  by_cases he : e = 0
  · subst he
    have ha0 : at_ = 0 := by have := (scanP_good s (by rw [hsc])).2.1; rw [hsc] at this; exact this
    subst ha0
    rw [if_neg (by simp)] at h
    obtain ⟨l', e', a', hp⟩ : ∃ l' e' a', parseAll xs xs.length 0 [] = (l', e', a') := ⟨_, _, _, rfl⟩
    rw [hp] at h
    simp only at h
    by_cases he' : e' = 0
    · subst he'
      rw [if_neg (by simp)] at h
      simp only [Prod.mk.injEq, true_and] at h
      obtain ⟨rfl, rfl⟩ := h
      obtain ⟨ys, rfl, hk, hz, hl⟩ := scanP_canon hsc
      have ha : a' = 0 := parseAll_zero _ _ _ _ _ hp
      subst ha
      obtain ⟨rest, e1, e2, e3⟩ := parseAll_inv hk hz _ 0 [] l' (Nat.le_refl _) (by rw [List.length_append, List.length_singleton]; omega) hp rfl
      rw [List.nil_append] at e1
      subst e1
      refine ⟨rfl, e3, ys ++ [lxEnd s.length], ?_⟩
      have hlen := (format_len e3).1
      have hx := Lexes.sps l' (check_mem e3)
      have hf : formatSp l' = l'.flatMap spText := by rw [formatSp, if_pos e3]
      rw [← hf] at hx
      obtain ⟨zs, q1, q2, q3⟩ := hx 0
      refine ⟨zs ++ [lxEnd (0 + (formatSp l').length)], hsc, by rw [scanP_eq _ (by omega), q1], ?_⟩
      rw [sameP_bare, List.map_append, List.map_append, q2]
      rw [List.drop_zero, List.map_append] at e2
      exact e2
    · rw [if_pos he'] at h
      exact absurd (congrArg (·.2.1) h) he'
  · rw [if_pos he] at h
    exact absurd (congrArg (·.2.1) h) he

theorem parseAll_off {xs : List Lx} {M : Int} (hM : 0 ≤ M) (hx : ∀ x ∈ xs, 0 ≤ x.off ∧ x.off ≤ M) : ∀ (n k : Nat) (acc : List Sp), 0 ≤ (parseAll xs n k acc).2.2 ∧ (parseAll xs n k acc).2.2 ≤ M
  | 0, _, _ => ⟨Int.le_refl _, hM⟩
  | n + 1, k, acc => by
    have ho : ∀ j, 0 ≤ (lxAt xs j).off ∧ (lxAt xs j).off ≤ M := fun j => by
      rw [lxAt]
      cases hj : xs[j]? with
      | none => exact ⟨Int.le_refl _, hM⟩
      | some x => exact hx x (List.mem_of_getElem? hj)
    rw [parseAll]
    split
    · exact ⟨Int.le_refl _, hM⟩
    · split
      · exact ho _
      · split
        · exact ho _
        · exact parseAll_off hM hx n _ _
/-- With an error nothing is returned, and the offset lies in the text. -/
theorem parse_bad {s : List UInt8} {l : List Sp} {e a : Int} (h : parseSp s = (l, e, a)) (he : e ≠ 0) : l = [] ∧ 0 ≤ a ∧ a ≤ s.length := by
  obtain ⟨xs, e1, at_, hsc⟩ : ∃ xs e at_, scanP s = (xs, e, at_) := ⟨_, _, _, rfl⟩
  unfold parseSp at h
  rw [hsc] at h
  simp only at h
  by_cases h1 : e1 = 0
  · subst h1
    rw [if_neg (by simp)] at h
    have hl := (scanP_good s (by rw [hsc])).1
    rw [scanP_eq s hl] at hsc
    have hb := scanS_bound _ s 0 (Nat.le_refl _)
    rw [hsc] at hb
    have ho := parseAll_off (xs := xs) (M := s.length) (by omega) (fun x hx => by have := hb x hx; omega) xs.length 0 []
    split at h
    · simp only [Prod.mk.injEq] at h
      obtain ⟨rfl, _, rfl⟩ := h
      exact ⟨rfl, ho⟩
    · simp only [Prod.mk.injEq] at h
      exact absurd h.2.1.symm he
  · rw [if_pos h1] at h
    simp only [Prod.mk.injEq] at h
    obtain ⟨rfl, rfl, rfl⟩ := h
    refine ⟨rfl, ?_⟩
    by_cases h8 : 8000 < s.length
    · rw [scanP, if_pos h8] at hsc
      simp only [Prod.mk.injEq] at hsc
      obtain ⟨_, _, rfl⟩ := hsc
      omega
    · rw [scanP_eq s (by omega)] at hsc
      obtain ⟨k, hk1, hk2, _⟩ := scanS_bad _ s 0 (Nat.le_refl _) (by rw [hsc]; exact h1)
      rw [hsc] at hk2
      have := congrArg (·.2.2) hk2
      simp only at this
      omega

end Saw
