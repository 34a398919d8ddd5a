/-
  Plain definitions for the lexer (layer 6), with no program in sight: strings as lists of bytes, skipping, runs, numbers, lexemes, the scan.
  The plain scan: what a lexeme at the head of a text is, and the list of a text's lexemes.
  Plain: the print of lexemes, and whether two lists have the same lexemes.
  Plain: decimal numerals, by a count.
  Plain: names; species and their ranges.
  Plain: the standard species; shrinking.
  Plain: the statements of a catalog of species, out of lexemes.
  Plain: a catalog out of lexemes.
  Plain: the text of a catalog of species.
-/
import Derived.Laws.Strings2
import Derived.Lib.Join
import Derived.Lib.ItoaLen
namespace Saw

/-- A string of the model out of a list of bytes. -/
def str (l : List UInt8) : ByteArray := ⟨l.toArray⟩
/-- The bytes of a string. -/
def bts (s : ByteArray) : List UInt8 := s.data.toList

theorem bts_str (l : List UInt8) : bts (str l) = l := by simp [bts, str]
theorem str_bts (s : ByteArray) : str (bts s) = s := by simp [bts, str]
theorem size_str (l : List UInt8) : (str l).size = l.length := by simp [str, ByteArray.size]
theorem size_bts (s : ByteArray) : s.size = (bts s).length := by unfold bts; rw [Array.length_toList]; rfl
theorem toList_bts (s : ByteArray) : s.toList = bts s := Go.ByteArray.toList_eq s
theorem extract_str (s : ByteArray) (a b : Nat) : s.extract a b = str (((bts s).drop a).take (b - a)) := by
  conv => lhs; rw [← str_bts s]
  exact Go.ByteArray.extract_mk _ _ _

def digI (c : Int) : Bool := decide (48 ≤ c) && decide (c ≤ 57)
def letI' (c : Int) : Bool := (decide (97 ≤ c) && decide (c ≤ 122)) || (decide (65 ≤ c) && decide (c ≤ 90)) || c == 95
def partI (c : Int) : Bool := letI' c || digI c

/-- The number of bytes of blanks and remarks at the head of a text; the flag says that a remark has begun. -/
def skipN : Bool → List UInt8 → Nat
  | _, [] => 0
  | true, c :: r => if c.toNat = 10 then skipN false r + 1 else skipN true r + 1
  | false, c :: r => if c.toNat = 32 ∨ c.toNat = 10 then skipN false r + 1 else if c.toNat = 35 then skipN true r + 1 else 0

theorem skipN_le : ∀ (l : List UInt8) (b : Bool), skipN b l ≤ l.length
  | [], b => by cases b <;> simp [skipN]
  | c :: r, b => by
    have h1 := skipN_le r true
    have h2 := skipN_le r false
    cases b <;> simp only [skipN, List.length_cons] <;> (repeat' split) <;> omega

theorem drop_cons (s : ByteArray) (k : Nat) (h : k < s.size) : (bts s).drop k = s[k] :: (bts s).drop (k + 1) := by
  have h' : k < (bts s).length := by rw [← size_bts]; exact h
  rw [List.drop_eq_getElem_cons h']
  rfl

theorem drop_nil (s : ByteArray) (k : Nat) (h : ¬ k < s.size) : (bts s).drop k = [] := by
  rw [List.drop_eq_nil_iff, ← size_bts]; omega

/-- The length of the longest head whose bytes all fulfil a condition. -/
def spanN (p : Int → Bool) : List UInt8 → Nat
  | [] => 0
  | c :: r => if p c.toNat then spanN p r + 1 else 0

theorem spanN_le (p : Int → Bool) : ∀ l : List UInt8, spanN p l ≤ l.length
  | [] => by simp [spanN]
  | c :: r => by
    have h := spanN_le p r
    simp only [spanN, List.length_cons]
    split <;> omega

/-- The number that digits denote, from a number on: none where it passes 2^40. -/
def valN : Int → List UInt8 → Option Int
  | n, [] => some n
  | n, c :: r => if 1099511627776 < n * 10 + ((c.toNat : Int) - 48) then none else valN (n * 10 + ((c.toNat : Int) - 48)) r

def valPair : Option Int → Int × Int
  | some n => (n, 0)
  | none => (0, 9)
/-- The number that a text of digits denotes, and the error. -/
def valueP (l : List UInt8) : Int × Int :=
  if 1 < l.length ∧ l.head?.map UInt8.toNat = some 48 then (0, 5) else valPair (valN 0 l)

/-- All bytes of a text are digits. -/
def allDig (l : List UInt8) : Prop := ∀ c ∈ l, digI c.toNat = true

/-- The marks, the longer ones first. -/
def marks : List (List UInt8) := [[60, 61], [62, 61], [33, 61], [46, 46], [60], [61], [62], [40], [41], [123], [125], [44], [59], [58], [43], [45], [42], [47], [64]]
def isMarkP (l : List UInt8) : Bool := marks.contains l

/-- The first mark that a text begins with. -/
def markP (l : List UInt8) : List UInt8 := (marks.find? fun m => m == l.take m.length).getD []

/-- A lexeme: its kind (0 end, 1 name, 2 number, 3 mark), its text, its number, its offset. -/
structure Lx where
  kind : Int
  text : List UInt8
  num : Int
  off : Int

instance : DecidableEq Lx := fun a b => decidable_of_iff (a.kind = b.kind ∧ a.text = b.text ∧ a.num = b.num ∧ a.off = b.off) (by cases a; cases b; simp)

def Lx.zero : Lx := ⟨0, [], 0, 0⟩

/-- The lexeme at the head of a text that begins with neither a blank nor a remark, and the error. -/
def readP (l : List UInt8) (pos : Int) : Lx × Int :=
  match l with
  | [] => (Lx.zero, 5)
  | c :: _ =>
    if letI' c.toNat then (if 16 < spanN partI l then (Lx.zero, 6) else (⟨1, l.take (spanN partI l), 0, pos⟩, 0))
    else if digI c.toNat then
      (if (valueP (l.take (spanN digI l))).2 = 0 then (⟨2, l.take (spanN digI l), (valueP (l.take (spanN digI l))).1, pos⟩, 0) else (Lx.zero, (valueP (l.take (spanN digI l))).2))
    else if 2 ≤ l.length ∧ isMarkP (l.take 2) = true then (⟨3, l.take 2, 0, pos⟩, 0)
    else if isMarkP (l.take 1) = true then (⟨3, l.take 1, 0, pos⟩, 0)
    else (Lx.zero, 5)

theorem span_dig_all : ∀ l : List UInt8, allDig (l.take (spanN digI l))
  | [] => by simp [allDig, spanN]
  | c :: r => by
    have h := span_dig_all r
    unfold spanN
    split
    · intro x hx
      rw [List.take_succ_cons, List.mem_cons] at hx
      rcases hx with rfl | hx
      · assumption
      · exact h x hx
    · simp [allDig]

end Saw

namespace Saw

def lxEnd (pos : Int) : Lx := ⟨0, [], 0, pos⟩

/-- The lexemes of a text that begins at an offset, with neither a blank nor a remark at its head; or an error and its offset. -/
def scanQ : Nat → List UInt8 → Int → List Lx × Int × Int
  | 0, _, _ => ([], 0, 0)
  | _ + 1, [], pos => ([lxEnd pos], 0, 0)
  | n + 1, c :: r, pos =>
    if (readP (c :: r) pos).2 = 0 then
      (if (scanQ n ((c :: r).drop ((readP (c :: r) pos).1.text.length + skipN false ((c :: r).drop (readP (c :: r) pos).1.text.length))) (pos + ((readP (c :: r) pos).1.text.length + skipN false ((c :: r).drop (readP (c :: r) pos).1.text.length) : Nat))).2.1 = 0 then
        ((readP (c :: r) pos).1 :: (scanQ n ((c :: r).drop ((readP (c :: r) pos).1.text.length + skipN false ((c :: r).drop (readP (c :: r) pos).1.text.length))) (pos + ((readP (c :: r) pos).1.text.length + skipN false ((c :: r).drop (readP (c :: r) pos).1.text.length) : Nat))).1, 0, 0)
      else scanQ n ((c :: r).drop ((readP (c :: r) pos).1.text.length + skipN false ((c :: r).drop (readP (c :: r) pos).1.text.length))) (pos + ((readP (c :: r) pos).1.text.length + skipN false ((c :: r).drop (readP (c :: r) pos).1.text.length) : Nat)))
    else ([], (readP (c :: r) pos).2, pos)

/-- Lexemes put ahead of a result. -/
def lxAhead (xs : List Lx) (y : List Lx × Int × Int) : List Lx × Int × Int := if y.2.1 = 0 then (xs ++ y.1, 0, 0) else y

def scanR (l : List UInt8) (pos : Int) : List Lx × Int × Int := scanQ (l.length + 1) l pos
/-- The scan of a text. -/
def scanP (l : List UInt8) : List Lx × Int × Int := if 8000 < l.length then ([], 4, 0) else scanR (l.drop (skipN false l)) (skipN false l)

theorem spanN_pos (p : Int → Bool) (c : UInt8) (r : List UInt8) (h : p c.toNat = true) : 0 < spanN p (c :: r) := by
  simp [spanN, h]

/-- The lexeme that is read is a head of the text, and not empty. -/
theorem readP_text (l : List UInt8) (pos : Int) (h : (readP l pos).2 = 0) :
    0 < (readP l pos).1.text.length ∧ (readP l pos).1.text = l.take (readP l pos).1.text.length ∧ (readP l pos).1.off = pos ∧ (readP l pos).1.kind ≠ 0 := by
  cases l with
  | nil => simp [readP] at h
  | cons c r =>
    rw [readP] at h ⊢
    by_cases hc : letI' c.toNat = true
    · simp only [hc, if_true] at h ⊢
      by_cases h16 : 16 < spanN partI (c :: r)
      · simp only [h16, if_true] at h; omega
      · simp only [h16, if_false] at h ⊢
        have h1 := spanN_pos partI c r (by simp [partI, hc])
        have h2 := spanN_le partI (c :: r)
        have h3 : ((c :: r).take (spanN partI (c :: r))).length = spanN partI (c :: r) := by rw [List.length_take]; omega
        refine ⟨by rw [h3]; exact h1, by rw [h3], by simp, by simp⟩
    · simp only [hc] at h ⊢
      by_cases hd : digI c.toNat = true
      · simp only [hd, if_true] at h ⊢
        by_cases hv : (valueP ((c :: r).take (spanN digI (c :: r)))).2 = 0
        · simp only [hv, if_true] at h ⊢
          have h1 := spanN_pos digI c r hd
          have h2 := spanN_le digI (c :: r)
          have h3 : ((c :: r).take (spanN digI (c :: r))).length = spanN digI (c :: r) := by rw [List.length_take]; omega
          exact ⟨by simp only [Bool.false_eq_true, if_false]; rw [h3]; exact h1, by simp only [Bool.false_eq_true, if_false]; rw [h3], by simp, by simp⟩
        · simp only [hv, if_false] at h
          exact absurd h hv
      · simp only [hd] at h ⊢
        by_cases h2 : 2 ≤ (c :: r).length ∧ isMarkP ((c :: r).take 2) = true
        · simp only [h2, and_self, if_true] at h ⊢
          have : ((c :: r).take 2).length = 2 := by rw [List.length_take]; omega
          exact ⟨by simp only [Bool.false_eq_true, if_false]; rw [this]; omega, by simp only [Bool.false_eq_true, if_false]; rw [this], by simp, by simp⟩
        · simp only [h2, if_false] at h ⊢
          by_cases h1 : isMarkP ((c :: r).take 1) = true
          · simp only [h1, if_true]
            exact ⟨by simp, by simp, by simp, by simp⟩
          · simp only [h1] at h
            simp at h

theorem scanQ_fuel : ∀ (n m : Nat) (l : List UInt8) (pos : Int), l.length < n → l.length < m → scanQ n l pos = scanQ m l pos
  | 0, _, _, _, h, _ => absurd h (by omega)
  | _ + 1, 0, _, _, _, h => absurd h (by omega)
  | _ + 1, _ + 1, [], _, _, _ => rfl
  | n + 1, m + 1, c :: r, pos, hn, hm => by
    rw [scanQ, scanQ]
    by_cases h : (readP (c :: r) pos).2 = 0
    · rw [if_pos h, if_pos h]
      have ht := (readP_text _ _ h).1
      have e := scanQ_fuel n m ((c :: r).drop ((readP (c :: r) pos).1.text.length + skipN false ((c :: r).drop (readP (c :: r) pos).1.text.length))) (pos + ((readP (c :: r) pos).1.text.length + skipN false ((c :: r).drop (readP (c :: r) pos).1.text.length) : Nat))
        (by rw [List.length_drop]; simp only [List.length_cons] at hn ⊢; omega) (by rw [List.length_drop]; simp only [List.length_cons] at hm ⊢; omega)
      rw [e]
    · rw [if_neg h, if_neg h]

theorem scanR_nil (pos : Int) : scanR [] pos = ([lxEnd pos], 0, 0) := rfl

theorem scanR_err (l : List UInt8) (pos : Int) (hl : l ≠ []) (h : (readP l pos).2 ≠ 0) : scanR l pos = ([], (readP l pos).2, pos) := by
  cases l with
  | nil => exact absurd rfl hl
  | cons c r => rw [scanR, List.length_cons, scanQ, if_neg h]

theorem scanR_ok (l : List UInt8) (pos : Int) (hl : l ≠ []) (h : (readP l pos).2 = 0) (m k : Nat) (hm : (readP l pos).1.text.length = m) (hk : skipN false (l.drop m) = k) :
    scanR l pos = lxAhead [(readP l pos).1] (scanR (l.drop (m + k)) (pos + (m + k : Nat))) := by
  subst hm hk
  cases l with
  | nil => exact absurd rfl hl
  | cons c r =>
    have ht := (readP_text _ _ h).1
    rw [scanR, List.length_cons, scanQ, if_pos h]
    rw [scanQ_fuel (r.length + 1) (((c :: r).drop ((readP (c :: r) pos).1.text.length + skipN false ((c :: r).drop (readP (c :: r) pos).1.text.length))).length + 1) _ _
      (by rw [List.length_drop]; simp only [List.length_cons]; omega) (by omega)]
    rfl

theorem lxAhead_nil (y : List Lx × Int × Int) (h : y.2.1 = 0 → y.2.2 = 0) : lxAhead [] y = y := by
  unfold lxAhead
  split
  · rename_i h0
    obtain ⟨a, b, c⟩ := y
    simp only at h0 h
    simp [h0, h h0]
  · rfl
theorem lxAhead_lxAhead (xs ys : List Lx) (y : List Lx × Int × Int) : lxAhead xs (lxAhead ys y) = lxAhead (xs ++ ys) y := by
  unfold lxAhead
  by_cases h : y.2.1 = 0 <;> simp [h]

theorem scanQ_zero : ∀ (n : Nat) (l : List UInt8) (pos : Int), (scanQ n l pos).2.1 = 0 → (scanQ n l pos).2.2 = 0
  | 0, _, _, _ => rfl
  | _ + 1, [], _, _ => rfl
  | n + 1, c :: r, pos, h => by
    have ih := scanQ_zero n ((c :: r).drop ((readP (c :: r) pos).1.text.length + skipN false ((c :: r).drop (readP (c :: r) pos).1.text.length))) (pos + ((readP (c :: r) pos).1.text.length + skipN false ((c :: r).drop (readP (c :: r) pos).1.text.length) : Nat))
    rw [scanQ] at h ⊢
    by_cases h0 : (readP (c :: r) pos).2 = 0
    · rw [if_pos h0] at h ⊢
      split
      · rfl
      · rename_i h1
        rw [if_neg h1] at h
        exact absurd h h1
    · rw [if_neg h0] at h
      exact absurd h h0
theorem scanR_zero (l : List UInt8) (pos : Int) (h : (scanR l pos).2.1 = 0) : (scanR l pos).2.2 = 0 := scanQ_zero _ _ _ h

end Saw

namespace Saw

/-- The texts of the lexemes that are not the end. -/
def texts (l : List Lx) : List (List UInt8) := (l.filter fun x => x.kind != 0).map (·.text)
def printP (l : List Lx) : List UInt8 := Go.Lib.join (texts l) [32]

def sameLx (x y : Lx) : Bool := (x.kind == y.kind) && (x.text == y.text) && (x.num == y.num)
/-- The same lexemes, apart from their offsets. -/
def sameP : List Lx → List Lx → Bool
  | [], [] => true
  | x :: r, y :: q => sameLx x y && sameP r q
  | _, _ => false

theorem texts_snoc (l : List Lx) (x : Lx) : texts (l ++ [x]) = texts l ++ (if (x.kind != 0) = true then [x.text] else []) := by
  unfold texts
  rw [List.filter_append, List.map_append]
  by_cases h : (x.kind != 0) = true <;> simp [h]
theorem texts_len (l : List Lx) : (texts l).length ≤ l.length := by
  unfold texts
  rw [List.length_map]
  exact List.length_filter_le _ _

theorem same_len : ∀ (l l' : List Lx), sameP l l' = true → l.length = l'.length
  | [], [], _ => rfl
  | [], _ :: _, h => by simp [sameP] at h
  | _ :: _, [], h => by simp [sameP] at h
  | x :: r, y :: q, h => by
    simp only [sameP, Bool.and_eq_true] at h
    simp [same_len r q h.2]
theorem same_step : ∀ (l l' : List Lx) (k : Nat) (x y : Lx), l[k]? = some x → l'[k]? = some y → sameP (l.drop k) (l'.drop k) = (sameLx x y && sameP (l.drop (k + 1)) (l'.drop (k + 1))) := by
  intro l l' k x y hx hy
  have hk := (List.getElem?_eq_some_iff.1 hx)
  have hk' := (List.getElem?_eq_some_iff.1 hy)
  rw [List.drop_eq_getElem_cons hk.1, List.drop_eq_getElem_cons hk'.1, hk.2, hk'.2, sameP]
theorem same_refl : ∀ l : List Lx, sameP l l = true
  | [] => rfl
  | x :: r => by simp [sameP, sameLx, same_refl r]

end Saw

namespace Saw

/-- The decimal digits of a number, at most as many as the count says. -/
def decF : Nat → Nat → List UInt8
  | 0, u => [UInt8.ofNat (48 + u % 10)]
  | n + 1, u => if u < 10 then [UInt8.ofNat (48 + u)] else decF n (u / 10) ++ [UInt8.ofNat (48 + u % 10)]
theorem decF_eq : ∀ (n u : Nat), u < 10 ^ (n + 1) → decF n u = Go.Lib.decDigits u
  | 0, u, h => by
    rw [Go.Lib.decDigits, dif_pos (by simpa using h), decF, Nat.mod_eq_of_lt (by simpa using h)]
  | n + 1, u, h => by
    rw [Go.Lib.decDigits, decF]
    by_cases h10 : u < 10
    · rw [if_pos h10, dif_pos h10]
    · rw [if_neg h10, dif_neg h10, decF_eq n (u / 10) (by rw [Nat.div_lt_iff_lt_mul (by decide)]; rw [Nat.pow_succ] at h; exact h)]
theorem itoa_decF (n : Int) (h0 : 0 ≤ n) (h1 : n < 10000000000000000000) : Go.Lib.itoa n = decF 18 n.toNat := by
  rw [Go.Lib.itoa, if_neg (by omega), decF_eq]
  have : (10 : Nat) ^ (18 + 1) = 10000000000000000000 := by decide
  omega

end Saw

namespace Saw

def smallI (c : Int) : Bool := decide (97 ≤ c) && decide (c ≤ 122)
def nameI (c : Int) : Bool := smallI c || digI c || c == 95
/-- A name. -/
def isNameP (l : List UInt8) : Bool :=
  match l with
  | [] => false
  | c :: r => decide (l.length ≤ 16) && smallI c.toNat && r.all fun d => nameI d.toNat

/-- A species: its name and its twelve numbers, in the order of the struct and of the text. -/
structure Sp where
  name : List UInt8
  green : Int
  fast : Int
  slow : Int
  safe : Int
  grad : Int
  crack : Int
  temp : Int
  depress : Int
  density : Int
  stiff : Int
  knots : Int
  shrink : Int

def Sp.nums (x : Sp) : List Int := [x.green, x.fast, x.slow, x.safe, x.grad, x.crack, x.temp, x.depress, x.density, x.stiff, x.knots, x.shrink]
def Sp.zero : Sp := ⟨[], 0, 0, 0, 0, 0, 0, 0, 0, 0, 0, 0, 0⟩
theorem Sp.ext_iff' (a b : Sp) : a = b ↔ a.name = b.name ∧ a.nums = b.nums := by
  cases a; cases b
  simp [Sp.nums]
instance : DecidableEq Sp := fun a b => decidable_of_iff (a.name = b.name ∧ a.nums = b.nums) (Sp.ext_iff' a b).symm

def Sp.ranges (x : Sp) : List (Int × Int) := [(3000, 20000), (1, 10000), (1, x.fast), (0, x.grad), (1, 20000), (1, 1000000), (200, 1200), (100, 400), (200, 1500), (1000, 30000), (0, 1000), (0, 200)]
/-- All numbers of a species are in their ranges. -/
def inRangeP (x : Sp) : Bool := (x.nums.zip x.ranges).all fun p => decide (p.2.1 ≤ p.1) && decide (p.1 ≤ p.2.2)

def findSp (l : List Sp) (n : List UInt8) : Option Sp := l.find? fun x => x.name == n
/-- The error of a list of species, the rest of it and where that begins given, the species ahead of it being checked. -/
def checkL (l : List Sp) : List Sp → Nat → Int
  | [], _ => 0
  | x :: r, k => if isNameP x.name = false then 6 else if (findSp (l.take k) x.name).isSome then 7 else if inRangeP x = false then 9 else checkL l r (k + 1)
def checkFrom (l : List Sp) (k : Nat) : Int := checkL l (l.drop k) k
theorem checkFrom_eq (l : List Sp) (k : Nat) : checkFrom l k = if h : k < l.length then
      (if isNameP l[k].name = false then 6 else if (findSp (l.take k) l[k].name).isSome then 7 else if inRangeP l[k] = false then 9 else checkFrom l (k + 1))
    else 0 := by
  by_cases h : k < l.length
  · rw [dif_pos h, checkFrom, List.drop_eq_getElem_cons h, checkL]
    rfl
  · rw [dif_neg h, checkFrom, List.drop_eq_nil_of_le (by omega)]
    rfl
def checkSp (l : List Sp) : Int := if 8 < l.length then 4 else checkFrom l 0

end Saw

namespace Saw

def sp_pine : Sp := ⟨[112, 105, 110, 101], 9000, 500, 80, 600, 2500, 20000, 800, 250, 480, 11000, 400, 60⟩
def sp_spruce : Sp := ⟨[115, 112, 114, 117, 99, 101], 8000, 600, 100, 700, 2500, 20000, 850, 280, 430, 11500, 450, 65⟩
def sp_oak : Sp := ⟨[111, 97, 107], 8000, 150, 20, 300, 1500, 8000, 600, 120, 650, 12500, 350, 75⟩
def sp_beech : Sp := ⟨[98, 101, 101, 99, 104], 7500, 250, 40, 400, 1800, 12000, 700, 180, 680, 14000, 300, 100⟩
def stdSp : List Sp := [sp_pine, sp_spruce, sp_oak, sp_beech]

def clampP (n lo hi : Int) : Int := if hi < lo ∨ n < lo then lo else if hi < n then hi else n
theorem clampP_bd (n : Int) : 0 ≤ clampP n 0 3000 ∧ clampP n 0 3000 ≤ 3000 := by unfold clampP; (repeat' split) <;> omega
/-- A dimension after drying. -/
def shrunkP (s size moist : Int) : Int :=
  if size < 0 ∨ 20000 < size ∨ s < 0 ∨ 200 < s then size else size - size * s * (3000 - clampP moist 0 3000) / 3000000

end Saw

namespace Saw

def lxAt (xs : List Lx) (k : Nat) : Lx := (xs[k]?).getD Lx.zero
def lxIs (x : Lx) (kind : Int) (t : List UInt8) : Bool := x.kind == kind && x.text == t
/-- The last lexeme alone is the end. -/
def LxEnds (xs : List Lx) : Prop := ∀ i x, xs[i]? = some x → x.kind ≠ 0 → i + 1 < xs.length

def wordsL : List (List UInt8) := [[103, 114, 101, 101, 110], [102, 97, 115, 116], [115, 108, 111, 119], [115, 97, 102, 101], [103, 114, 97, 100, 105, 101, 110, 116], [99, 114, 97, 99, 107], [116, 101, 109, 112], [100, 101, 112, 114, 101, 115, 115], [100, 101, 110, 115, 105, 116, 121], [115, 116, 105, 102, 102], [107, 110, 111, 116, 115], [115, 104, 114, 105, 110, 107]]
def speciesW : List UInt8 := [115, 112, 101, 99, 105, 101, 115]

/-- The words and numbers of a species, from an index on. -/
def readNums (xs : List Lx) : List (List UInt8) → Nat → List Int → List Int × Nat × Bool
  | [], k, acc => (acc, k, true)
  | w :: ws, k, acc => if lxIs (lxAt xs k) 1 w then (if (lxAt xs (k + 1)).kind == 2 then readNums xs ws (k + 2) (acc ++ [(lxAt xs (k + 1)).num]) else (acc, k + 1, false)) else (acc, k, false)

def mkSp (name : List UInt8) (n : List Int) : Sp := ⟨name, n.getD 0 0, n.getD 1 0, n.getD 2 0, n.getD 3 0, n.getD 4 0, n.getD 5 0, n.getD 6 0, n.getD 7 0, n.getD 8 0, n.getD 9 0, n.getD 10 0, n.getD 11 0⟩

/-- A statement that begins at an index: the species, the index behind it (or of the lexeme that does not fit), whether it is complete. -/
def stmtP (xs : List Lx) (k : Nat) : Sp × Nat × Bool :=
  if lxIs (lxAt xs k) 1 speciesW then
    (if (lxAt xs (k + 1)).kind == 1 then
      (if (readNums xs wordsL (k + 2) []).2.2 then
        (mkSp (lxAt xs (k + 1)).text (readNums xs wordsL (k + 2) []).1, if lxIs (lxAt xs (readNums xs wordsL (k + 2) []).2.1) 3 [59] then (readNums xs wordsL (k + 2) []).2.1 + 1 else (readNums xs wordsL (k + 2) []).2.1, lxIs (lxAt xs (readNums xs wordsL (k + 2) []).2.1) 3 [59])
      else (Sp.zero, (readNums xs wordsL (k + 2) []).2.1, false))
    else (Sp.zero, k + 1, false))
  else (Sp.zero, k, false)

theorem lxAt_some {xs : List Lx} {k : Nat} (h : k < xs.length) : xs[k]? = some (lxAt xs k) := by
  rw [lxAt, List.getElem?_eq_getElem h]; rfl
theorem lxEnds_next {xs : List Lx} (he : LxEnds xs) {k : Nat} (h : k < xs.length) (hk : (lxAt xs k).kind ≠ 0) : k + 1 < xs.length := he k _ (lxAt_some h) hk
theorem lxIs_kind {x : Lx} {kind : Int} {t : List UInt8} (h : lxIs x kind t = true) : x.kind = kind := by
  rw [lxIs, Bool.and_eq_true, beq_iff_eq] at h; exact h.1
theorem readNums_in {xs : List Lx} (he : LxEnds xs) : ∀ (ws : List (List UInt8)) (k : Nat) (acc : List Int), k < xs.length → (readNums xs ws k acc).2.1 < xs.length
  | [], k, acc, h => h
  | w :: ws, k, acc, h => by
    rw [readNums]
    by_cases h1 : lxIs (lxAt xs k) 1 w = true
    · rw [if_pos h1]
      have h2 := lxEnds_next he h (by rw [lxIs_kind h1]; decide)
      by_cases h3 : ((lxAt xs (k + 1)).kind == 2) = true
      · rw [if_pos h3]
        exact readNums_in he ws (k + 2) _ (lxEnds_next he h2 (by rw [beq_iff_eq.1 h3]; decide))
      · rw [if_neg h3]; exact h2
    · rw [if_neg h1]; exact h

end Saw

namespace Saw

/-- The statements from an index on, the species ahead of it being read: the species, the error, its offset. -/
def parseAll (xs : List Lx) : Nat → Nat → List Sp → List Sp × Int × Int
  | 0, _, acc => (acc, 0, 0)
  | n + 1, k, acc =>
    if (lxAt xs k).kind = 0 then (acc, 0, 0)
    else if (stmtP xs k).2.2 = false then (acc, 5, (lxAt xs (stmtP xs k).2.1).off)
    else if checkSp (acc ++ [(stmtP xs k).1]) ≠ 0 then (acc ++ [(stmtP xs k).1], checkSp (acc ++ [(stmtP xs k).1]), (lxAt xs k).off)
    else parseAll xs n (stmtP xs k).2.1 (acc ++ [(stmtP xs k).1])

theorem check_nil : checkSp [] = 0 := rfl

theorem readNums_ge (xs : List Lx) : ∀ (ws : List (List UInt8)) (k : Nat) (acc : List Int), k ≤ (readNums xs ws k acc).2.1
  | [], k, acc => Nat.le_refl _
  | w :: ws, k, acc => by
    rw [readNums]
    split
    · split
      · have := readNums_ge xs ws (k + 2) (acc ++ [(lxAt xs (k + 1)).num]); omega
      · simp
    · simp
/-- A complete statement goes on behind its beginning. -/
theorem stmtP_gt {xs : List Lx} {k : Nat} (h : (stmtP xs k).2.2 = true) : k < (stmtP xs k).2.1 := by
  have hge := readNums_ge xs wordsL (k + 2) []
  unfold stmtP at h ⊢
  by_cases h1 : lxIs (lxAt xs k) 1 speciesW = true
  · rw [if_pos h1] at h ⊢
    by_cases h2 : ((lxAt xs (k + 1)).kind == 1) = true
    · rw [if_pos h2] at h ⊢
      by_cases h3 : (readNums xs wordsL (k + 2) []).2.2 = true
      · rw [if_pos h3] at h ⊢
        simp only at h ⊢
        rw [if_pos h]
        omega
      · rw [if_neg h3] at h; cases h
    · rw [if_neg h2] at h; cases h
  · rw [if_neg h1] at h; cases h
theorem stmtP_in {xs : List Lx} (he : LxEnds xs) {k : Nat} (hk : k < xs.length) : (stmtP xs k).2.1 < xs.length := by
  unfold stmtP
  by_cases h1 : lxIs (lxAt xs k) 1 speciesW = true
  · rw [if_pos h1]
    have hk1 := lxEnds_next he hk (by rw [lxIs_kind h1]; decide)
    by_cases h2 : ((lxAt xs (k + 1)).kind == 1) = true
    · rw [if_pos h2]
      have hk2 := lxEnds_next he hk1 (by rw [beq_iff_eq.1 h2]; decide)
      have hin := readNums_in he wordsL (k + 2) [] hk2
      by_cases h3 : (readNums xs wordsL (k + 2) []).2.2 = true
      · rw [if_pos h3]
        simp only
        by_cases h4 : lxIs (lxAt xs (readNums xs wordsL (k + 2) []).2.1) 3 [59] = true
        · rw [if_pos h4]
          exact lxEnds_next he hin (by rw [lxIs_kind h4]; decide)
        · rw [if_neg h4]; exact hin
      · rw [if_neg h3]; exact hin
    · rw [if_neg h2]; exact hk1
  · rw [if_neg h1]; exact hk
theorem lxAt_text {xs : List Lx} {M : Nat} (h : ∀ x ∈ xs, x.text.length ≤ M) (k : Nat) : (lxAt xs k).text.length ≤ M := by
  rw [lxAt]
  cases hx : xs[k]? with
  | none => exact Nat.zero_le _
  | some x => exact h x (List.mem_of_getElem? hx)
theorem stmtP_name {xs : List Lx} {M : Nat} (h : ∀ x ∈ xs, x.text.length ≤ M) (k : Nat) : (stmtP xs k).1.name.length ≤ M := by
  unfold stmtP
  split
  · split
    · split
      · exact lxAt_text h _
      · exact Nat.zero_le _
    · exact Nat.zero_le _
  · exact Nat.zero_le _

end Saw

namespace Saw

/-- A word and its number. -/
def wordNum (p : List UInt8 × Int) : List UInt8 := 32 :: p.1 ++ 32 :: Go.Lib.itoa p.2
def spHead (x : Sp) : List UInt8 := speciesW ++ 32 :: x.name
/-- The text of a species. -/
def spText (x : Sp) : List UInt8 := spHead x ++ (wordsL.zip x.nums).flatMap wordNum ++ [59, 10]
/-- The text of a catalog. -/
def formatSp (l : List Sp) : List UInt8 := if checkSp l = 0 then l.flatMap spText else []

theorem checkFrom_all {l : List Sp} : ∀ (n k : Nat), l.length - k ≤ n → checkFrom l k = 0 → ∀ i, k ≤ i → i < l.length → ∃ x, l[i]? = some x ∧ isNameP x.name = true ∧ (findSp (l.take i) x.name) = none ∧ inRangeP x = true := by
  intro n
  induction n with
  | zero => intro k hk _ i h1 h2; omega
  | succ n ih =>
    intro k hk h i h1 h2
    by_cases hkl : k < l.length
    · rw [checkFrom_eq, dif_pos hkl] at h
      by_cases a1 : isNameP l[k].name = false
      · rw [if_pos a1] at h; cases h
      · rw [if_neg a1] at h
        by_cases a2 : (findSp (l.take k) l[k].name).isSome = true
        · rw [if_pos a2] at h; cases h
        · rw [if_neg a2] at h
          by_cases a3 : inRangeP l[k] = false
          · rw [if_pos a3] at h; cases h
          · rw [if_neg a3] at h
            by_cases hik : i = k
            · subst hik
              exact ⟨l[i], List.getElem?_eq_getElem h2, by simpa using a1, by simpa using a2, by simpa using a3⟩
            · exact ih (k + 1) (by omega) h i (by omega) h2
    · omega
theorem checkSp_all {l : List Sp} (h : checkSp l = 0) : l.length ≤ 8 ∧ ∀ i, i < l.length → ∃ x, l[i]? = some x ∧ isNameP x.name = true ∧ (findSp (l.take i) x.name) = none ∧ inRangeP x = true := by
  rw [checkSp] at h
  by_cases h8 : 8 < l.length
  · rw [if_pos h8] at h; cases h
  · rw [if_neg h8] at h
    exact ⟨by omega, fun i hi => checkFrom_all _ 0 (Nat.le_refl _) h i (Nat.zero_le _) hi⟩
theorem isNameP_len {l : List UInt8} (h : isNameP l = true) : 1 ≤ l.length ∧ l.length ≤ 16 := by
  cases l with
  | nil => cases h
  | cons c r =>
    rw [isNameP, Bool.and_eq_true, Bool.and_eq_true] at h
    exact ⟨by simp, of_decide_eq_true h.1.1⟩
theorem inRange_bd {x : Sp} (h : inRangeP x = true) : ∀ n ∈ x.nums, 0 ≤ n ∧ n ≤ 1000000 := by
  unfold inRangeP Sp.nums Sp.ranges at h
  simp only [List.zip_cons_cons, List.zip_nil_right, List.all_cons, List.all_nil, Bool.and_true, Bool.and_eq_true, decide_eq_true_eq] at h
  intro n hn
  simp only [Sp.nums, List.mem_cons, List.not_mem_nil, or_false] at hn
  omega
theorem wordNum_len (p : List UInt8 × Int) (hw : p.1.length ≤ 8) (h0 : 0 ≤ p.2) (h1 : p.2 ≤ 1000000) : (wordNum p).length ≤ 40 := by
  have := Go.Lib.itoa_length_le p.2 (by omega) (by omega)
  simp only [wordNum, List.cons_append, List.length_cons, List.length_append]
  omega

end Saw
