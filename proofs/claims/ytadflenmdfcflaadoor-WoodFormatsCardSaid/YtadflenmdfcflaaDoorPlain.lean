/-
  Plain definitions for the lexer (layer 6), with no program in sight: strings as lists of bytes, skipping, runs, numbers, lexemes, the scan.
-/
import Derived.Laws.Strings2
namespace Saw

/-- A string of the model out of a list of bytes. -/
def str (l : List UInt8) : ByteArray := ⟨l.toArray⟩
/-- The bytes of a string. -/
def bts (s : ByteArray) : List UInt8 := s.data.toList

theorem bts_str (l : List UInt8) : bts (str l) = l := by simp [bts, str]
theorem str_bts (s : ByteArray) : str (bts s) = s := by simp [bts, str]
theorem size_str (l : List UInt8) : (str l).size = l.length := by simp [str, ByteArray.size]
theorem size_bts (s : ByteArray) : s.size = (bts s).length := by unfold bts; rw [Array.length_toList]; rfl
theorem toList_bts (s : ByteArray) : s.toList = bts s := Go.ByteArray.toList_eq s
theorem extract_str (s : ByteArray) (a b : Nat) : s.extract a b = str (((bts s).drop a).take (b - a)) := by
  conv => lhs; rw [← str_bts s]
  exact Go.ByteArray.extract_mk _ _ _

def digI (c : Int) : Bool := decide (48 ≤ c) && decide (c ≤ 57)
def letI' (c : Int) : Bool := (decide (97 ≤ c) && decide (c ≤ 122)) || (decide (65 ≤ c) && decide (c ≤ 90)) || c == 95
def partI (c : Int) : Bool := letI' c || digI c

/-- The number of bytes of blanks and remarks at the head of a text; the flag says that a remark has begun. -/
def skipN : Bool → List UInt8 → Nat
  | _, [] => 0
  | true, c :: r => if c.toNat = 10 then skipN false r + 1 else skipN true r + 1
  | false, c :: r => if c.toNat = 32 ∨ c.toNat = 10 then skipN false r + 1 else if c.toNat = 35 then skipN true r + 1 else 0

theorem skipN_le : ∀ (l : List UInt8) (b : Bool), skipN b l ≤ l.length
  | [], b => by cases b <;> simp [skipN]
  | c :: r, b => by
    have h1 := skipN_le r true
    have h2 := skipN_le r false
    cases b <;> simp only [skipN, List.length_cons] <;> (repeat' split) <;> omega

theorem drop_cons (s : ByteArray) (k : Nat) (h : k < s.size) : (bts s).drop k = s[k] :: (bts s).drop (k + 1) := by
  have h' : k < (bts s).length := by rw [← size_bts]; exact h
  rw [List.drop_eq_getElem_cons h']
  rfl

theorem drop_nil (s : ByteArray) (k : Nat) (h : ¬ k < s.size) : (bts s).drop k = [] := by
  rw [List.drop_eq_nil_iff, ← size_bts]; omega

/-- The length of the longest head whose bytes all fulfil a condition. -/
def spanN (p : Int → Bool) : List UInt8 → Nat
  | [] => 0
  | c :: r => if p c.toNat then spanN p r + 1 else 0

theorem spanN_le (p : Int → Bool) : ∀ l : List UInt8, spanN p l ≤ l.length
  | [] => by simp [spanN]
  | c :: r => by
    have h := spanN_le p r
    simp only [spanN, List.length_cons]
    split <;> omega

/-- The number that digits denote, from a number on: none where it passes 2^40. -/
def valN : Int → List UInt8 → Option Int
  | n, [] => some n
  | n, c :: r => if 1099511627776 < n * 10 + ((c.toNat : Int) - 48) then none else valN (n * 10 + ((c.toNat : Int) - 48)) r

def valPair : Option Int → Int × Int
  | some n => (n, 0)
  | none => (0, 9)
/-- The number that a text of digits denotes, and the error. -/
def valueP (l : List UInt8) : Int × Int :=
  if 1 < l.length ∧ l.head?.map UInt8.toNat = some 48 then (0, 5) else valPair (valN 0 l)

/-- All bytes of a text are digits. -/
def allDig (l : List UInt8) : Prop := ∀ c ∈ l, digI c.toNat = true

/-- The marks, the longer ones first. -/
def marks : List (List UInt8) := [[60, 61], [62, 61], [33, 61], [46, 46], [60], [61], [62], [40], [41], [123], [125], [44], [59], [58], [43], [45], [42], [47], [64]]
def isMarkP (l : List UInt8) : Bool := marks.contains l

/-- The first mark that a text begins with. -/
def markP (l : List UInt8) : List UInt8 := (marks.find? fun m => m == l.take m.length).getD []

/-- A lexeme: its kind (0 end, 1 name, 2 number, 3 mark), its text, its number, its offset. -/
structure Lx where
  kind : Int
  text : List UInt8
  num : Int
  off : Int

instance : DecidableEq Lx := fun a b => decidable_of_iff (a.kind = b.kind ∧ a.text = b.text ∧ a.num = b.num ∧ a.off = b.off) (by cases a; cases b; simp)

def Lx.zero : Lx := ⟨0, [], 0, 0⟩

/-- The lexeme at the head of a text that begins with neither a blank nor a remark, and the error. -/
def readP (l : List UInt8) (pos : Int) : Lx × Int :=
  match l with
  | [] => (Lx.zero, 5)
  | c :: _ =>
    if letI' c.toNat then (if 16 < spanN partI l then (Lx.zero, 6) else (⟨1, l.take (spanN partI l), 0, pos⟩, 0))
    else if digI c.toNat then
      (if (valueP (l.take (spanN digI l))).2 = 0 then (⟨2, l.take (spanN digI l), (valueP (l.take (spanN digI l))).1, pos⟩, 0) else (Lx.zero, (valueP (l.take (spanN digI l))).2))
    else if 2 ≤ l.length ∧ isMarkP (l.take 2) = true then (⟨3, l.take 2, 0, pos⟩, 0)
    else if isMarkP (l.take 1) = true then (⟨3, l.take 1, 0, pos⟩, 0)
    else (Lx.zero, 5)

theorem span_dig_all : ∀ l : List UInt8, allDig (l.take (spanN digI l))
  | [] => by simp [allDig, spanN]
  | c :: r => by
    have h := span_dig_all r
    unfold spanN
    split
    · intro x hx
      rw [List.take_succ_cons, List.mem_cons] at hx
      rcases hx with rfl | hx
      · assumption
      · exact h x hx
    · simp [allDig]

end Saw
