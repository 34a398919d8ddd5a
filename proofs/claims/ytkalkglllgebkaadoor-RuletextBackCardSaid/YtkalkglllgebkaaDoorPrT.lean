/-
  Plain: the text of a catalog of products is parsed back as the catalog; what is parsed has the lexemes of its text.
-/
import Derived.Test.YtkalkglllgebkaaDoorPlainC
import Derived.Test.YtkalkglllgebkaaDoorPrQ
import Derived.Test.YtkalkglllgebkaaDoorPrR
namespace Saw

/-! ### Lengths of texts -/
theorem dec_le : ∀ (d u : Nat), 0 < d → u < 10 ^ d → (Go.Lib.decDigits u).length ≤ d
  | 0, _, h, _ => by omega
  | d + 1, u, _, h => by
    by_cases h10 : u < 10
    · rw [Go.Lib.decDigits_one h10]; simp
    · have hd : 0 < d := by
        rcases Nat.eq_zero_or_pos d with rfl | h1
        · simp at h; omega
        · exact h1
      rw [Go.Lib.decDigits, dif_neg h10, List.length_append, List.length_singleton]
      have := dec_le d (u / 10) hd (by rw [Nat.pow_succ] at h; omega)
      omega
theorem itoa7 (n : Int) (h0 : 0 ≤ n) (h1 : n ≤ 1000000) : (Go.Lib.itoa n).length ≤ 7 := by
  obtain ⟨u, rfl⟩ : ∃ u : Nat, n = u := ⟨n.toNat, by omega⟩
  rw [Go.Lib.itoa, if_neg (by omega), Int.toNat_natCast]
  exact dec_le 7 u (by decide) (by simp; omega)
theorem pairsFrom_len7 : ∀ (ps : List (Int × Int)) (k : Nat), (∀ p ∈ ps, (0 ≤ p.1 ∧ p.1 ≤ 20000) ∧ 0 ≤ p.2 ∧ p.2 ≤ 1000000) → (pairsFrom k ps).length ≤ ps.length * 19
  | [], k, _ => by simp [pairsFrom]
  | p :: r, k, h => by
    have i1 := pairsFrom_len7 r (k + 1) (fun q hq => h q (by simp [hq]))
    have hp := h p (by simp)
    have e1 := itoa7 p.1 hp.1.1 (by omega)
    have e2 := itoa7 p.2 hp.2.1 hp.2.2
    have e3 : (if 0 < k then [(44 : UInt8)] else []).length ≤ 1 := by split <;> simp
    rw [pairsFrom, List.length_append, List.length_cons, pairText]
    simp only [List.length_append, List.length_cons, List.length_nil]
    omega
theorem prText_len7 {x : Pr} (hn : isNameP x.name = true) (h : PrOk x) : (prText x).length ≤ 300 := by
  have hz := pairsFrom_len7 (x.lens.zip x.prices) 0 (zip_ok h)
  rw [zip_length h] at hz
  have h2 := h.l2
  obtain ⟨h1, h2', h3, h4, h5, h6, h7, h8, _⟩ := h
  have := (isNameP_len hn).2
  have e1 := itoa7 x.thick (by omega) (by omega)
  have e2 := itoa7 x.width (by omega) (by omega)
  have e3 := itoa7 x.allow (by omega) (by omega)
  have e4 := itoa7 x.wane (by omega) (by omega)
  simp only [prText, prHeadA, prHeadB, List.length_append, List.length_cons, List.length_nil]
  omega
theorem prCheck_mem {l : List Pr} (h : checkPr l = 0) : ∀ x ∈ l, isNameP x.name = true ∧ PrOk x := fun x hx => by
  obtain ⟨i, hi⟩ := List.mem_iff_getElem?.1 hx
  obtain ⟨h1, _, h3⟩ := (checkPr_ok h).2 i x hi
  exact ⟨h1, prOk_of h3⟩
theorem formatPr_len {l : List Pr} (h : checkPr l = 0) : (formatPr l).length ≤ 4800 := by
  have hm := prCheck_mem h
  have h16 := (checkPr_ok h).1
  rw [formatPr, if_pos h]
  have key : ∀ l : List Pr, (∀ x ∈ l, isNameP x.name = true ∧ PrOk x) → (l.flatMap prText).length ≤ 300 * l.length := by
    intro l
    induction l with
    | nil => intro _; simp
    | cons x r ih =>
      intro hx
      have := ih (fun y hy => hx y (by simp [hy]))
      have := prText_len7 (hx x (by simp)).1 (hx x (by simp)).2
      rw [List.flatMap_cons, List.length_append, List.length_cons]
      omega
  have := key l hm
  omega

/-! ### The lexemes of a text -/
def pairToks (k : Nat) (p : Int × Int) : List Lx := (if 0 < k then [mkT [44]] else []) ++ [nuT p.1, mkT [64], nuT p.2]
def pairsToks : Nat → List (Int × Int) → List Lx
  | _, [] => []
  | k, p :: r => pairToks k p ++ pairsToks (k + 1) r
def prToks (x : Pr) : List Lx := [nmT productW, nmT x.name, nuT x.thick, nmT [120], nuT x.width, nmT allowW, nuT x.allow, nmT waneW, nuT x.wane, mkT [58]] ++ pairsToks 0 (x.lens.zip x.prices) ++ [mkT [59]]

theorem name_word {t : List UInt8} (h : isNameP t = true) : isWord t = true := by
  cases t with
  | nil => cases h
  | cons c r =>
    rw [isNameP, Bool.and_eq_true, Bool.and_eq_true] at h
    obtain ⟨⟨h1, h2⟩, h3⟩ := h
    have hs : ∀ c : Int, smallI c = true → letI' c = true := fun c hc => by simp only [smallI, letI', Bool.or_eq_true] at hc ⊢; exact .inl (.inl hc)
    have hn : ∀ c : Int, nameI c = true → partI c = true := fun c hc => by
      simp only [nameI, partI, Bool.or_eq_true] at hc ⊢
      rcases hc with (hc | hc) | hc
      · exact .inl (hs c hc)
      · exact .inr hc
      · refine .inl ?_
        simp only [letI', Bool.or_eq_true]
        exact .inr hc
    rw [isWord, h1, List.headD_cons, hs _ h2, List.all_cons, Bool.true_and, Bool.true_and, Bool.and_eq_true]
    refine ⟨?_, ?_⟩
    · simp only [partI, Bool.or_eq_true]; exact .inl (hs _ h2)
    · rw [List.all_eq_true] at h3 ⊢
      exact fun x hx => hn _ (h3 x hx)
theorem Lexes.pairP {k : Nat} {p : Int × Int} {l : List UInt8} {ts : List Lx} (h1 : 0 ≤ p.1 ∧ p.1 ≤ 20000) (h2 : 0 ≤ p.2 ∧ p.2 ≤ 1000000) (hl : digI (l.headD 32).toNat = false) (h : Lexes l ts) : Lexes (pairText k p ++ l) (pairToks k p ++ ts) ∧ digI ((pairText k p ++ l).headD 32).toNat = false := by
  have hb : Lexes ([32] ++ Go.Lib.itoa p.1 ++ [32, 64, 32] ++ Go.Lib.itoa p.2 ++ l) ([nuT p.1, mkT [64], nuT p.2] ++ ts) := by
    have e : [32] ++ Go.Lib.itoa p.1 ++ [32, 64, 32] ++ Go.Lib.itoa p.2 ++ l = 32 :: (Go.Lib.itoa p.1 ++ (32 :: ([64] ++ (32 :: (Go.Lib.itoa p.2 ++ l))))) := by simp
    rw [e]
    exact Lexes.blank (.inl rfl) (Lexes.num h1.1 (by omega) rfl (Lexes.blank (.inl rfl) (Lexes.mark (m := [64]) (by decide) (fun _ => mark_alone 64 _ (by decide)) (Lexes.blank (.inl rfl) (Lexes.num h2.1 (by omega) hl h)))))
  unfold pairText pairToks
  by_cases hk : 0 < k
  · rw [if_pos hk, if_pos hk]
    refine ⟨?_, rfl⟩
    have e : [44] ++ ([32] ++ Go.Lib.itoa p.1 ++ [32, 64, 32] ++ Go.Lib.itoa p.2) ++ l = [44] ++ ([32] ++ Go.Lib.itoa p.1 ++ [32, 64, 32] ++ Go.Lib.itoa p.2 ++ l) := by simp
    rw [e]
    exact Lexes.mark (m := [44]) (by decide) (fun _ => mark_alone 44 _ (by decide)) hb
  · rw [if_neg hk, if_neg hk]
    exact ⟨by simpa using hb, rfl⟩
theorem Lexes.pairsP {l : List UInt8} {ts : List Lx} (hl : digI (l.headD 32).toNat = false) (h : Lexes l ts) : ∀ (ps : List (Int × Int)) (k : Nat), (∀ p ∈ ps, (0 ≤ p.1 ∧ p.1 ≤ 20000) ∧ 0 ≤ p.2 ∧ p.2 ≤ 1000000) → Lexes (pairsFrom k ps ++ l) (pairsToks k ps ++ ts) ∧ digI ((pairsFrom k ps ++ l).headD 32).toNat = false
  | [], k, _ => ⟨h, hl⟩
  | p :: r, k, hp => by
    obtain ⟨i1, i2⟩ := Lexes.pairsP hl h r (k + 1) (fun q hq => hp q (by simp [hq]))
    have := Lexes.pairP (k := k) (hp p (by simp)).1 (hp p (by simp)).2 i2 i1
    rw [pairsFrom, pairsToks, List.append_assoc, List.append_assoc]
    exact this
theorem Lexes.pr {x : Pr} {l : List UInt8} {ts : List Lx} (h1 : isNameP x.name = true) (h2 : PrOk x) (h : Lexes l ts) : Lexes (prText x ++ l) (prToks x ++ ts) := by
  have hz := zip_ok h2
  obtain ⟨t1, t2, t3, t4, t5, t6, t7, t8, _⟩ := h2
  have hp := (Lexes.pairsP (l := 59 :: 10 :: l) (ts := mkT [59] :: ts) rfl (Lexes.mark (m := [59]) (l := 10 :: l) (by decide) (fun _ => mark_alone 59 _ (by decide)) (Lexes.blank (.inr rfl) h)) (x.lens.zip x.prices) 0 hz).1
  have e : prText x ++ l = productW ++ (32 :: (x.name ++ (32 :: (Go.Lib.itoa x.thick ++ (32 :: ([120] ++ (32 :: (Go.Lib.itoa x.width ++ (32 :: (allowW ++ (32 :: (Go.Lib.itoa x.allow ++ (32 :: (waneW ++ (32 :: (Go.Lib.itoa x.wane ++ ([58] ++ (pairsFrom 0 (x.lens.zip x.prices) ++ 59 :: 10 :: l)))))))))))))))))) := by
    simp [prText, prHeadA, prHeadB, productW, allowW, waneW]
  have e2 : prToks x ++ ts = nmT productW :: nmT x.name :: nuT x.thick :: nmT [120] :: nuT x.width :: nmT allowW :: nuT x.allow :: nmT waneW :: nuT x.wane :: mkT [58] :: (pairsToks 0 (x.lens.zip x.prices) ++ mkT [59] :: ts) := by simp [prToks]
  rw [e, e2]
  refine Lexes.word (by decide) rfl (Lexes.blank (.inl rfl) (Lexes.word (name_word h1) rfl (Lexes.blank (.inl rfl) (Lexes.num (by omega) (by omega) rfl (Lexes.blank (.inl rfl) (Lexes.word (by decide) rfl (Lexes.blank (.inl rfl) (Lexes.num (by omega) (by omega) rfl (Lexes.blank (.inl rfl) (Lexes.word (by decide) rfl (Lexes.blank (.inl rfl) (Lexes.num (by omega) (by omega) rfl (Lexes.blank (.inl rfl) (Lexes.word (by decide) rfl (Lexes.blank (.inl rfl) (Lexes.num (by omega) (by omega) rfl (Lexes.mark (m := [58]) (by decide) (fun _ => mark_alone 58 _ (by decide)) hp)))))))))))))))))
theorem Lexes.prs : ∀ l : List Pr, (∀ x ∈ l, isNameP x.name = true ∧ PrOk x) → Lexes (l.flatMap prText) (l.flatMap prToks)
  | [], _ => Lexes.nil
  | x :: r, h => by
    rw [List.flatMap_cons, List.flatMap_cons]
    exact Lexes.pr (h x (by simp)).1 (h x (by simp)).2 (Lexes.prs r (fun y hy => h y (by simp [hy])))

/-! ### Reading lexemes -/
/-- The lexemes from k on are, but for their offsets, these. -/
def AtK (xs : List Lx) (k : Nat) (ts : List Lx) : Prop := ∃ r, (xs.drop k).map Lx.bare = ts ++ r
theorem AtK.step {xs : List Lx} {k : Nat} {t : Lx} {ts : List Lx} (h : AtK xs k (t :: ts)) : (lxAt xs k).bare = t ∧ k < xs.length ∧ AtK xs (k + 1) ts := by
  obtain ⟨r, hr⟩ := h
  have hk : k < xs.length := by
    rcases Nat.lt_or_ge k xs.length with h1 | h1
    · exact h1
    · rw [List.drop_eq_nil_of_le h1] at hr; cases hr
  rw [drop_lxAt hk, List.map_cons, List.cons_append] at hr
  injection hr with h1 h2
  exact ⟨h1, hk, r, h2⟩
theorem AtK.app {xs : List Lx} {k : Nat} {a b : List Lx} (h : AtK xs k (a ++ b)) : AtK xs k a := by
  obtain ⟨r, hr⟩ := h
  exact ⟨b ++ r, by rw [hr, List.append_assoc]⟩
theorem AtK.skip {xs : List Lx} : ∀ {a b : List Lx} {k : Nat}, AtK xs k (a ++ b) → AtK xs (k + a.length) b
  | [], b, k, h => h
  | t :: a, b, k, h => by
    have := AtK.skip (a := a) h.step.2.2
    rw [List.length_cons, Nat.add_comm a.length 1, ← Nat.add_assoc]
    exact this
theorem fits_bare (x : Lx) (p : Int × List UInt8) : lxFits x.bare p = lxFits x p := rfl
theorem AtK.next {xs : List Lx} {k : Nat} {t : Lx} {ts : List Lx} (h : AtK xs k (t :: ts)) {p : Int × List UInt8} (hf : lxFits t p = true) : nextS xs (k, false) p = (k + 1, false) ∧ (lexS xs (k, false) p).text = t.text ∧ (lexS xs (k, false) p).num = t.num ∧ AtK xs (k + 1) ts := by
  obtain ⟨h1, h2, h3⟩ := h.step
  have hok : okS xs (k, false) p = true := by
    rw [okS]
    simp only [Bool.not_false, Bool.true_and]
    rw [← fits_bare, h1, hf]
  refine ⟨by rw [nextS, if_pos hok], ?_, ?_, h3⟩
  · rw [lexS, if_pos hok, ← h1]; rfl
  · rw [lexS, if_pos hok, ← h1]; rfl
theorem fits_nu (n : Int) : lxFits (nuT n) (2, []) = true := rfl
theorem fits_nm (t : List UInt8) : lxFits (nmT t) (1, []) = true := rfl
theorem fits_nmw (t : List UInt8) : lxFits (nmT t) (1, t) = true := by simp [lxFits, nmT]
theorem fits_mk (t : List UInt8) : lxFits (mkT t) (3, t) = true := by simp [lxFits, mkT]
theorem pairsToks_succ (p : Int × Int) (r : List (Int × Int)) (k : Nat) : pairsToks (k + 1) (p :: r) = mkT [44] :: nuT p.1 :: mkT [64] :: nuT p.2 :: pairsToks (k + 2) r := by
  rw [pairsToks, pairToks, if_pos (by omega)]; rfl
theorem pairs_read {xs : List Lx} : ∀ (r : List (Int × Int)) (p : Int × Int) (j n k : Nat) (ls ps : List Int) (ts : List Lx), r.length < n → AtK xs k (nuT p.1 :: mkT [64] :: nuT p.2 :: (pairsToks (j + 1) r ++ mkT [59] :: ts)) →
    pairsS xs n (k, false) ls ps = (ls ++ p.1 :: r.map (·.1), ps ++ p.2 :: r.map (·.2), (k + 3 + 4 * r.length, false)) ∧ AtK xs (k + 3 + 4 * r.length) (mkT [59] :: ts)
  | r, p, j, 0, k, ls, ps, ts, hn, _ => by omega
  | r, p, j, n + 1, k, ls, ps, ts, hn, h => by
    obtain ⟨a1, _, a3, a4⟩ := h.next (fits_nu p.1)
    obtain ⟨b1, _, _, b4⟩ := a4.next (fits_mk [64])
    obtain ⟨c1, _, c3, c4⟩ := b4.next (fits_nu p.2)
    have hS : pairS xs (k, false) = (k + 3, false) := by rw [pairS, a1, b1, c1]
    have hL : pairL xs (k, false) = p.1 := a3
    have hP : pairP xs (k, false) = p.2 := by rw [pairP, a1, b1]; exact c3
    rw [pairsS, hS, hL, hP]
    cases r with
    | nil =>
      have d := c4.step
      have hno : okS xs (k + 3, false) (3, [44]) = false := by
        rw [okS]
        simp only [Bool.not_false, Bool.true_and]
        rw [← fits_bare, d.1]; rfl
      rw [if_neg (by rw [hno]; decide)]
      exact ⟨by simp, c4⟩
    | cons q r' =>
      rw [pairsToks_succ] at c4
      have d := AtK.step c4
      have hyes : okS xs (k + 3, false) (3, [44]) = true := by
        rw [okS]
        simp only [Bool.not_false, Bool.true_and]
        rw [← fits_bare, d.1]; rfl
      rw [if_pos hyes, tryS, if_pos hyes]
      obtain ⟨i1, i2⟩ := pairs_read r' q (j + 1) n (k + 3 + 1) (ls ++ [p.1]) (ps ++ [p.2]) ts (by simp at hn; omega) d.2.2
      rw [i1]
      have e : k + 3 + 1 + 3 + 4 * r'.length = k + 3 + 4 * (q :: r').length := by simp; omega
      rw [e] at i2 ⊢
      exact ⟨by simp, i2⟩
theorem zip_maps : ∀ (a b : List Int), a.length = b.length → (a.zip b).map (·.1) = a ∧ (a.zip b).map (·.2) = b
  | [], [], _ => ⟨rfl, rfl⟩
  | [], _ :: _, h => by simp at h
  | _ :: _, [], h => by simp at h
  | x :: a, y :: b, h => by
    obtain ⟨h1, h2⟩ := zip_maps a b (by simpa using h)
    simp [h1, h2]
/-- A product whose lengths have their prices. -/
def PrWf (x : Pr) : Prop := x.lens.length = x.prices.length ∧ 1 ≤ x.lens.length
theorem PrOk.wf {x : Pr} (h : PrOk x) : PrWf x := ⟨h.lp.symm, h.l1⟩
theorem pairsToks_length : ∀ (r : List (Int × Int)) (k : Nat), (pairsToks (k + 1) r).length = 4 * r.length
  | [], k => rfl
  | p :: r, k => by rw [pairsToks_succ]; simp [pairsToks_length r (k + 1)]; omega
theorem prod_read {xs : List Lx} {k : Nat} {x : Pr} {ts : List Lx} (hw : PrWf x) (h : AtK xs k (prToks x ++ ts)) : prodS xs (k, false) = (x, (k + (prToks x).length, false)) ∧ AtK xs (k + (prToks x).length) ts := by
  obtain ⟨hw1, hw2⟩ := hw
  have hskip := AtK.skip h
  obtain ⟨p, r, hz⟩ : ∃ p r, x.lens.zip x.prices = p :: r := by
    match hzz : x.lens.zip x.prices with
    | [] => have := congrArg List.length hzz; rw [List.length_zip, hw1, Nat.min_self, List.length_nil] at this; omega
    | p :: r => exact ⟨p, r, rfl⟩
  obtain ⟨m1, m2⟩ := zip_maps x.lens x.prices hw1
  rw [hz] at m1 m2
  have e2 : prToks x ++ ts = nmT productW :: nmT x.name :: nuT x.thick :: nmT [120] :: nuT x.width :: nmT allowW :: nuT x.allow :: nmT waneW :: nuT x.wane :: mkT [58] :: nuT p.1 :: mkT [64] :: nuT p.2 :: (pairsToks (0 + 1) r ++ mkT [59] :: ts) := by
    rw [prToks, hz, pairsToks, pairToks, if_neg (by omega)]; simp
  have hlen : (prToks x).length = 10 + (3 + 4 * r.length) + 1 := by
    have := congrArg List.length e2
    simp only [List.length_append, List.length_cons, pairsToks_length] at this
    omega
  rw [e2] at h
  obtain ⟨q1, _, _, h1⟩ := h.next (fits_nmw productW)
  obtain ⟨q2, x2, _, h2⟩ := h1.next (fits_nm x.name)
  obtain ⟨q3, _, x3, h3⟩ := h2.next (fits_nu x.thick)
  obtain ⟨q4, _, _, h4⟩ := h3.next (fits_nmw [120])
  obtain ⟨q5, _, x5, h5⟩ := h4.next (fits_nu x.width)
  obtain ⟨q6, _, _, h6⟩ := h5.next (fits_nmw allowW)
  obtain ⟨q7, _, x7, h7⟩ := h6.next (fits_nu x.allow)
  obtain ⟨q8, _, _, h8⟩ := h7.next (fits_nmw waneW)
  obtain ⟨q9, _, x9, h9⟩ := h8.next (fits_nu x.wane)
  obtain ⟨q10, _, _, h10⟩ := h9.next (fits_mk [58])
  have f1 : hd1 xs (k, false) = (k + 1, false) := q1
  have f2 : hd2 xs (k, false) = (k + 1 + 1, false) := by rw [hd2, f1, q2]
  have f3 : hd3 xs (k, false) = (k + 1 + 1 + 1, false) := by rw [hd3, f2, q3]
  have f4 : hd4 xs (k, false) = (k + 1 + 1 + 1 + 1, false) := by rw [hd4, f3, q4]
  have f5 : hd5 xs (k, false) = (k + 1 + 1 + 1 + 1 + 1, false) := by rw [hd5, f4, q5]
  have f6 : hd6 xs (k, false) = (k + 1 + 1 + 1 + 1 + 1 + 1, false) := by rw [hd6, f5, q6]
  have f7 : hd7 xs (k, false) = (k + 1 + 1 + 1 + 1 + 1 + 1 + 1, false) := by rw [hd7, f6, q7]
  have f8 : hd8 xs (k, false) = (k + 1 + 1 + 1 + 1 + 1 + 1 + 1 + 1, false) := by rw [hd8, f7, q8]
  have f9 : hd9 xs (k, false) = (k + 1 + 1 + 1 + 1 + 1 + 1 + 1 + 1 + 1, false) := by rw [hd9, f8, q9]
  have f10 : hd10 xs (k, false) = (k + 1 + 1 + 1 + 1 + 1 + 1 + 1 + 1 + 1 + 1, false) := by rw [hd10, f9, q10]
  have hrl : r.length < xs.length := by
    obtain ⟨rr, hrr⟩ := h10
    have := congrArg List.length hrr
    simp only [List.length_map, List.length_drop, List.length_append, List.length_cons, pairsToks_length] at this
    omega
  obtain ⟨i1, i2⟩ := pairs_read r p 0 xs.length _ [] [] ts hrl h10
  obtain ⟨q11, _, _, h11⟩ := i2.next (fits_mk [59])
  have hx : x = ⟨x.name, x.thick, x.width, x.allow, x.wane, p.1 :: r.map (·.1), p.2 :: r.map (·.2)⟩ := by
    rw [List.map_cons] at m1 m2
    rw [m1, m2]
  refine ⟨?_, hskip⟩
  unfold prodS
  rw [f10, i1, f1, f2, f4, f6, f8, x2, x3, x5, x7, x9, List.nil_append, List.nil_append, q11]
  refine Prod.ext hx.symm ?_
  rw [hlen]
  refine Prod.ext ?_ rfl
  dsimp only
  omega
theorem prToks_kind {x : Pr} : ∃ r, prToks x = nmT productW :: r := ⟨_, rfl⟩
/-- All products of a text whose lexemes are those of a list. -/
theorem prods_read {xs : List Lx} {e : Lx} (he : e.kind = 0) : ∀ (rest : List Pr) (n k : Nat) (acc : List Pr) (os : List Int), (∀ x ∈ rest, PrWf x) → AtK xs k (rest.flatMap prToks ++ [e]) → rest.length < n →
    ∃ offs : List Int, offs.length = rest.length ∧ prodAll xs n (k, false) acc os = (acc ++ rest, os ++ offs, (k + (rest.flatMap prToks).length, false))
  | [], n, k, acc, os, _, h, hn => by
    obtain ⟨n', rfl⟩ : ∃ n', n = n' + 1 := ⟨n - 1, by simp at hn; omega⟩
    have h1 : (lxAt xs k).kind = 0 := by rw [← he, ← (AtK.step h).1]; rfl
    exact ⟨[], rfl, by rw [prodAll, if_pos (.inr h1)]; simp⟩
  | x :: rest, n, k, acc, os, hw, h, hn => by
    obtain ⟨n', rfl⟩ : ∃ n', n = n' + 1 := ⟨n - 1, by simp at hn; omega⟩
    rw [List.flatMap_cons, List.append_assoc] at h
    obtain ⟨i1, i2⟩ := prod_read (hw x (by simp)) h
    obtain ⟨r, hr⟩ := prToks_kind (x := x)
    have h1 : (lxAt xs k).kind = 1 := by
      rw [hr, List.cons_append] at h
      have := congrArg Lx.kind (AtK.step h).1
      exact this
    obtain ⟨offs, o1, o2⟩ := prods_read he rest n' _ (acc ++ [x]) (os ++ [(lxAt xs k).off]) (fun y hy => hw y (by simp [hy])) i2 (by simp at hn; omega)
    refine ⟨(lxAt xs k).off :: offs, by simp [o1], ?_⟩
    rw [prodAll, if_neg (by simp [h1]), i1, o2]
    simp [Nat.add_assoc]
theorem heads_ok {l : List Pr} (h : checkPr l = 0) : ∀ (os : List Int) (k : Nat), headsErr l os k = (0, 0)
  | [], _ => rfl
  | o :: os, k => by rw [headsErr, if_neg (by simp [checkPr_take h]), heads_ok h os (k + 1)]
theorem heads_bad {l : List Pr} (h : checkPr l ≠ 0) : ∀ (os : List Int) (k : Nat), os ≠ [] → k + os.length = l.length → (headsErr l os k).1 ≠ 0
  | [], _, h0, _ => absurd rfl h0
  | [o], k, _, hk => by
    have : l.take (k + 1) = l := List.take_of_length_le (by simp at hk; omega)
    rw [headsErr, this, if_pos h]
    exact h
  | o :: o2 :: os, k, _, hk => by
    rw [headsErr]
    split
    · rename_i h1; exact h1
    · exact heads_bad h (o2 :: os) (k + 1) (by simp) (by simp at hk ⊢; omega)
theorem prToks_ge (x : Pr) : 1 ≤ (prToks x).length := by simp [prToks]
theorem flat_ge : ∀ l : List Pr, l.length ≤ (l.flatMap prToks).length
  | [] => by simp
  | x :: r => by
    have := flat_ge r
    have := prToks_ge x
    rw [List.flatMap_cons, List.length_append, List.length_cons]
    omega
/-- A text whose lexemes are those of a list. -/
theorem parse_toks {s : List UInt8} {xs : List Lx} {e : Lx} {l : List Pr} (hsc : scanP s = (xs, 0, 0)) (he : e.kind = 0) (hx : xs.map Lx.bare = l.flatMap prToks ++ [e]) (hw : ∀ x ∈ l, PrWf x) :
    (checkPr l = 0 → parsePr s = (l, 0, 0)) ∧ (checkPr l ≠ 0 → ∃ er a, er ≠ 0 ∧ parsePr s = ([], er, a)) := by
  have hlen : l.length < xs.length := by
    have := congrArg List.length hx
    rw [List.length_map, List.length_append, List.length_singleton] at this
    have := flat_ge l
    omega
  obtain ⟨offs, o1, o2⟩ := prods_read (xs := xs) he l xs.length 0 [] [] hw ⟨[], by rw [List.drop_zero, hx]; simp⟩ hlen
  rw [List.nil_append, List.nil_append] at o2
  unfold parsePr
  rw [hsc]
  simp only [ne_eq, not_true_eq_false, if_false, o2, Bool.false_eq_true]
  refine ⟨fun hc => ?_, fun hc => ?_⟩
  · rw [heads_ok hc]; simp
  · have hne : offs ≠ [] := by
      intro h0
      rw [h0] at o1
      have : l = [] := List.length_eq_zero_iff.1 o1.symm
      rw [this] at hc
      exact hc rfl
    have hb := heads_bad hc offs 0 hne (by omega)
    rw [if_pos hb]
    exact ⟨_, _, hb, rfl⟩
/-- The text of a catalog is parsed back as the catalog. -/
theorem parsePr_format {l : List Pr} (h : checkPr l = 0) : parsePr (formatPr l) = (l, 0, 0) := by
  have hlen := formatPr_len h
  have hx := Lexes.prs l (prCheck_mem h)
  have hf : formatPr l = l.flatMap prText := by rw [formatPr, if_pos h]
  rw [← hf] at hx
  obtain ⟨ys, h1, h2, h3⟩ := hx 0
  have hsc : scanP (formatPr l) = (ys ++ [lxEnd (0 + (formatPr l).length)], 0, 0) := by rw [scanP_eq _ (by omega), h1]
  refine (parse_toks (e := (lxEnd (0 + (formatPr l).length)).bare) hsc rfl ?_ (fun x hx => ((prCheck_mem h) x hx).2.wf)).1 h
  rw [List.map_append, h2]; rfl

end Saw
