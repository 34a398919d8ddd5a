/-
  Plain: what is read of products out of lexemes, the reader's place and whether it failed being handed on.
-/
import Derived.Test.YtkalkglllgebkaaDoorPrP
namespace Saw

/-- The lexeme has a kind and, unless this is empty, a text. -/
def lxFits (x : Lx) (p : Int × List UInt8) : Bool := x.kind == p.1 && (p.2 == [] || x.text == p.2)
theorem lxFits_kind {x : Lx} {p : Int × List UInt8} (h : lxFits x p = true) : x.kind = p.1 := by
  rw [lxFits, Bool.and_eq_true, beq_iff_eq] at h
  exact h.1
/-- Does the present lexeme fit? -/
def okS (xs : List Lx) (s : Nat × Bool) (p : Int × List UInt8) : Bool := !s.2 && lxFits (lxAt xs s.1) p
def lexS (xs : List Lx) (s : Nat × Bool) (p : Int × List UInt8) : Lx := if okS xs s p then lxAt xs s.1 else Lx.zero
/-- The reader behind a take. -/
def nextS (xs : List Lx) (s : Nat × Bool) (p : Int × List UInt8) : Nat × Bool := if okS xs s p then (s.1 + 1, false) else (s.1, true)
/-- The reader behind a try. -/
def tryS (xs : List Lx) (s : Nat × Bool) (p : Int × List UInt8) : Nat × Bool := if okS xs s p then (s.1 + 1, false) else s
theorem okS_two {xs : List Lx} {s : Nat × Bool} {p : Int × List UInt8} (h : okS xs s p = true) : s.2 = false ∧ lxFits (lxAt xs s.1) p = true := by
  rw [okS, Bool.and_eq_true] at h
  exact ⟨by simpa using h.1, h.2⟩
theorem tryS_in {xs : List Lx} (he : LxEnds xs) {s : Nat × Bool} {p : Int × List UInt8} (hp : p.1 ≠ 0) (h : s.1 < xs.length) : (tryS xs s p).1 < xs.length := by
  unfold tryS
  split
  · rename_i h1
    exact lxEnds_next he h (by rw [lxFits_kind (okS_two h1).2]; exact hp)
  · exact h
theorem nextS_in {xs : List Lx} (he : LxEnds xs) {s : Nat × Bool} {p : Int × List UInt8} (hp : p.1 ≠ 0) (h : s.1 < xs.length) : (nextS xs s p).1 < xs.length := by
  unfold nextS
  split
  · rename_i h1
    exact lxEnds_next he h (by rw [lxFits_kind (okS_two h1).2]; exact hp)
  · exact h
theorem nextS_ge (xs : List Lx) (s : Nat × Bool) (p : Int × List UInt8) : s.1 ≤ (nextS xs s p).1 := by
  unfold nextS
  split
  · exact Nat.le_succ _
  · exact Nat.le_refl _
theorem nextS_ok {xs : List Lx} {s : Nat × Bool} {p : Int × List UInt8} (h : (nextS xs s p).2 = false) : okS xs s p = true ∧ nextS xs s p = (s.1 + 1, false) ∧ lexS xs s p = lxAt xs s.1 := by
  unfold nextS at h ⊢
  unfold lexS
  split at h
  · rename_i h1
    simp [h1]
  · cases h

def productW : List UInt8 := [112, 114, 111, 100, 117, 99, 116]
def allowW : List UInt8 := [97, 108, 108, 111, 119]
def waneW : List UInt8 := [119, 97, 110, 101]

/-- Lengths and prices: the reader behind one of each. -/
def pairS (xs : List Lx) (s : Nat × Bool) : Nat × Bool := nextS xs (nextS xs (nextS xs s (2, [])) (3, [64])) (2, [])
def pairL (xs : List Lx) (s : Nat × Bool) : Int := (lexS xs s (2, [])).num
def pairP (xs : List Lx) (s : Nat × Bool) : Int := (lexS xs (nextS xs (nextS xs s (2, [])) (3, [64])) (2, [])).num
def pairsS (xs : List Lx) : Nat → Nat × Bool → List Int → List Int → List Int × List Int × (Nat × Bool)
  | 0, s, ls, ps => (ls, ps, s)
  | n + 1, s, ls, ps =>
    if okS xs (pairS xs s) (3, [44]) then pairsS xs n (tryS xs (pairS xs s) (3, [44])) (ls ++ [pairL xs s]) (ps ++ [pairP xs s])
    else (ls ++ [pairL xs s], ps ++ [pairP xs s], pairS xs s)

def hd1 (xs : List Lx) (s : Nat × Bool) : Nat × Bool := nextS xs s (1, productW)
def hd2 (xs : List Lx) (s : Nat × Bool) : Nat × Bool := nextS xs (hd1 xs s) (1, [])
def hd3 (xs : List Lx) (s : Nat × Bool) : Nat × Bool := nextS xs (hd2 xs s) (2, [])
def hd4 (xs : List Lx) (s : Nat × Bool) : Nat × Bool := nextS xs (hd3 xs s) (1, [120])
def hd5 (xs : List Lx) (s : Nat × Bool) : Nat × Bool := nextS xs (hd4 xs s) (2, [])
def hd6 (xs : List Lx) (s : Nat × Bool) : Nat × Bool := nextS xs (hd5 xs s) (1, allowW)
def hd7 (xs : List Lx) (s : Nat × Bool) : Nat × Bool := nextS xs (hd6 xs s) (2, [])
def hd8 (xs : List Lx) (s : Nat × Bool) : Nat × Bool := nextS xs (hd7 xs s) (1, waneW)
def hd9 (xs : List Lx) (s : Nat × Bool) : Nat × Bool := nextS xs (hd8 xs s) (2, [])
def hd10 (xs : List Lx) (s : Nat × Bool) : Nat × Bool := nextS xs (hd9 xs s) (3, [58])
/-- What the code has read of a product, and the reader behind it. -/
def prodS (xs : List Lx) (s : Nat × Bool) : Pr × (Nat × Bool) :=
  (⟨(lexS xs (hd1 xs s) (1, [])).text, (lexS xs (hd2 xs s) (2, [])).num, (lexS xs (hd4 xs s) (2, [])).num, (lexS xs (hd6 xs s) (2, [])).num, (lexS xs (hd8 xs s) (2, [])).num,
    (pairsS xs xs.length (hd10 xs s) [] []).1, (pairsS xs xs.length (hd10 xs s) [] []).2.1⟩, nextS xs (pairsS xs xs.length (hd10 xs s) [] []).2.2 (3, [59]))

/-- All products, with the offsets at which they begin. -/
def prodAll (xs : List Lx) : Nat → Nat × Bool → List Pr → List Int → List Pr × List Int × (Nat × Bool)
  | 0, s, l, os => (l, os, s)
  | n + 1, s, l, os =>
    if s.2 = true ∨ (lxAt xs s.1).kind = 0 then (l, os, s)
    else prodAll xs n (prodS xs s).2 (l ++ [(prodS xs s).1]) (os ++ [(lxAt xs s.1).off])
/-- The first error of the heads of a list, and its offset. -/
def headsErr (l : List Pr) : List Int → Nat → Int × Int
  | [], _ => (0, 0)
  | o :: os, k => if checkPr (l.take (k + 1)) ≠ 0 then (checkPr (l.take (k + 1)), o) else headsErr l os (k + 1)
/-- The catalog that a text describes, or an error and its offset. -/
def parsePr (l : List UInt8) : List Pr × Int × Int :=
  if (scanP l).2.1 ≠ 0 then ([], (scanP l).2.1, (scanP l).2.2)
  else if (prodAll (scanP l).1 (scanP l).1.length (0, false) [] []).2.2.2 = true then ([], 5, (lxAt (scanP l).1 (prodAll (scanP l).1 (scanP l).1.length (0, false) [] []).2.2.1).off)
  else if (headsErr (prodAll (scanP l).1 (scanP l).1.length (0, false) [] []).1 (prodAll (scanP l).1 (scanP l).1.length (0, false) [] []).2.1 0).1 ≠ 0 then
    ([], (headsErr (prodAll (scanP l).1 (scanP l).1.length (0, false) [] []).1 (prodAll (scanP l).1 (scanP l).1.length (0, false) [] []).2.1 0).1, (headsErr (prodAll (scanP l).1 (scanP l).1.length (0, false) [] []).1 (prodAll (scanP l).1 (scanP l).1.length (0, false) [] []).2.1 0).2)
  else ((prodAll (scanP l).1 (scanP l).1.length (0, false) [] []).1, 0, 0)

theorem pairS_in {xs : List Lx} (he : LxEnds xs) {s : Nat × Bool} (h : s.1 < xs.length) : (pairS xs s).1 < xs.length :=
  nextS_in he (p := (2, [])) (by decide) (nextS_in he (p := (3, [64])) (by decide) (nextS_in he (p := (2, [])) (by decide) h))
theorem pairS_ge (xs : List Lx) (s : Nat × Bool) : s.1 ≤ (pairS xs s).1 := Nat.le_trans (nextS_ge _ _ _) (Nat.le_trans (nextS_ge _ _ _) (nextS_ge _ _ _))
theorem pairsS_in {xs : List Lx} (he : LxEnds xs) : ∀ (n : Nat) (s : Nat × Bool) (ls ps : List Int), s.1 < xs.length → (pairsS xs n s ls ps).2.2.1 < xs.length
  | 0, s, ls, ps, h => h
  | n + 1, s, ls, ps, h => by
    rw [pairsS]
    split
    · exact pairsS_in he n _ _ _ (tryS_in he (by decide) (pairS_in he h))
    · exact pairS_in he h
theorem pairsS_ge (xs : List Lx) : ∀ (n : Nat) (s : Nat × Bool) (ls ps : List Int), s.1 ≤ (pairsS xs n s ls ps).2.2.1
  | 0, s, ls, ps => Nat.le_refl _
  | n + 1, s, ls, ps => by
    rw [pairsS]
    split
    · rename_i h1
      refine Nat.le_trans ?_ (pairsS_ge xs n _ _ _)
      rw [tryS, if_pos h1]
      exact Nat.le_succ_of_le (pairS_ge xs s)
    · exact pairS_ge xs s
theorem hd10_in {xs : List Lx} (he : LxEnds xs) {s : Nat × Bool} (h : s.1 < xs.length) : (hd1 xs s).1 < xs.length ∧ (hd2 xs s).1 < xs.length ∧ (hd3 xs s).1 < xs.length ∧ (hd4 xs s).1 < xs.length ∧ (hd5 xs s).1 < xs.length ∧ (hd6 xs s).1 < xs.length ∧ (hd7 xs s).1 < xs.length ∧ (hd8 xs s).1 < xs.length ∧ (hd9 xs s).1 < xs.length ∧ (hd10 xs s).1 < xs.length := by
  have h1 : (hd1 xs s).1 < xs.length := nextS_in he (by decide) h
  have h2 : (hd2 xs s).1 < xs.length := nextS_in he (by decide) h1
  have h3 : (hd3 xs s).1 < xs.length := nextS_in he (by decide) h2
  have h4 : (hd4 xs s).1 < xs.length := nextS_in he (by decide) h3
  have h5 : (hd5 xs s).1 < xs.length := nextS_in he (by decide) h4
  have h6 : (hd6 xs s).1 < xs.length := nextS_in he (by decide) h5
  have h7 : (hd7 xs s).1 < xs.length := nextS_in he (by decide) h6
  have h8 : (hd8 xs s).1 < xs.length := nextS_in he (by decide) h7
  have h9 : (hd9 xs s).1 < xs.length := nextS_in he (by decide) h8
  exact ⟨h1, h2, h3, h4, h5, h6, h7, h8, h9, nextS_in he (by decide) h9⟩
theorem prodS_in {xs : List Lx} (he : LxEnds xs) {s : Nat × Bool} (h : s.1 < xs.length) : (prodS xs s).2.1 < xs.length :=
  nextS_in he (by decide) (pairsS_in he _ _ _ _ (hd10_in he h).2.2.2.2.2.2.2.2.2)
theorem prodS_gt {xs : List Lx} {s : Nat × Bool} (h : (prodS xs s).2.2 = false) : s.1 < (prodS xs s).2.1 := by
  have h1 := (nextS_ok h).2.1
  have h2 : s.1 ≤ (hd10 xs s).1 := by
    unfold hd10 hd9 hd8 hd7 hd6 hd5 hd4 hd3 hd2 hd1
    exact Nat.le_trans (nextS_ge _ _ _) (Nat.le_trans (nextS_ge _ _ _) (Nat.le_trans (nextS_ge _ _ _) (Nat.le_trans (nextS_ge _ _ _) (Nat.le_trans (nextS_ge _ _ _) (Nat.le_trans (nextS_ge _ _ _) (Nat.le_trans (nextS_ge _ _ _) (Nat.le_trans (nextS_ge _ _ _) (Nat.le_trans (nextS_ge _ _ _) (nextS_ge _ _ _)))))))))
  have h3 := pairsS_ge xs xs.length (hd10 xs s) [] []
  have h4 : (prodS xs s).2 = ((pairsS xs xs.length (hd10 xs s) [] []).2.2.1 + 1, false) := h1
  rw [h4]
  show s.1 < _ + 1
  omega

end Saw
