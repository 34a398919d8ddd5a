/-
  Plain facts for the reference's scan: what is read, by the first byte; the first mark.
-/
import Derived.Test.YtabdlldkkcjppaaDoorPlainA
namespace Saw

theorem find_len (n : Nat) (l : List UInt8) : ∀ ms : List (List UInt8), (∀ m ∈ ms, m.length = n) →
    ms.find? (fun m => m == l.take m.length) = if l.take n ∈ ms then some (l.take n) else none
  | [], _ => by simp
  | m :: ms, h => by
    have hm : m.length = n := h m (by simp)
    rw [List.find?_cons]
    by_cases he : m = l.take n
    · have : (m == l.take m.length) = true := by rw [hm]; simpa using he
      rw [this, if_pos (by rw [← he]; simp), ← he]
    · have : (m == l.take m.length) = false := by rw [hm]; simpa using he
      rw [this, find_len n l ms (fun m hm => h m (by simp [hm]))]
      by_cases hin : l.take n ∈ ms
      · rw [if_pos hin, if_pos (by simp [hin])]
      · rw [if_neg hin, if_neg]
        simp only [List.mem_cons, not_or]
        exact ⟨fun h => he h.symm, hin⟩

def marks2 : List (List UInt8) := marks.take 4
def marks1 : List (List UInt8) := marks.drop 4
theorem marks_split : marks = marks2 ++ marks1 := (List.take_append_drop 4 marks).symm
theorem marks2_len : ∀ m ∈ marks2, m.length = 2 := by decide
theorem marks1_len : ∀ m ∈ marks1, m.length = 1 := by decide

theorem markP_eq (l : List UInt8) (hl : l ≠ []) :
    markP l = if 2 ≤ l.length ∧ isMarkP (l.take 2) = true then l.take 2 else if isMarkP (l.take 1) = true then l.take 1 else [] := by
  have hl1 : 1 ≤ l.length := by
    cases l with
    | nil => exact absurd rfl hl
    | cons c r => simp
  have e2 : (2 ≤ l.length ∧ isMarkP (l.take 2) = true) ↔ l.take 2 ∈ marks2 := by
    simp only [isMarkP, List.contains_iff_mem, marks_split, List.mem_append]
    constructor
    · rintro ⟨h, h1 | h1⟩
      · exact h1
      · have := marks1_len _ h1
        rw [List.length_take] at this
        omega
    · intro h
      refine ⟨?_, .inl h⟩
      have := marks2_len _ h
      rw [List.length_take] at this
      omega
  have e1 : (isMarkP (l.take 1) = true) ↔ l.take 1 ∈ marks1 := by
    simp only [isMarkP, List.contains_iff_mem, marks_split, List.mem_append]
    constructor
    · rintro (h1 | h1)
      · have := marks2_len _ h1
        rw [List.length_take] at this
        omega
      · exact h1
    · exact .inr
  rw [markP, marks_split, List.find?_append, find_len 2 l _ marks2_len, find_len 1 l _ marks1_len]
  by_cases h2 : l.take 2 ∈ marks2
  · rw [if_pos h2, if_pos (e2.2 h2)]
    rfl
  · rw [if_neg h2, if_neg (fun h => h2 (e2.1 h))]
    by_cases h1 : l.take 1 ∈ marks1
    · rw [if_pos h1, if_pos (e1.2 h1)]
      rfl
    · rw [if_neg h1, if_neg (fun h => h1 (e1.1 h))]
      rfl

theorem dig_not_let {c : Int} (h : digI c = true) : letI' c = false := by
  simp [digI, letI'] at *
  omega
theorem let_of {c : Int} (h : partI c = true) (hd : digI c = false) : letI' c = true := by
  simpa [partI, hd] using h
theorem not_let {c : Int} (h : partI c = false) : letI' c = false ∧ digI c = false := by
  simpa [partI] using h

theorem readP_letter (c : UInt8) (r : List UInt8) (pos : Int) (hc : letI' c.toNat = true) :
    readP (c :: r) pos = if 16 < spanN partI (c :: r) then (Lx.zero, 6) else (⟨1, (c :: r).take (spanN partI (c :: r)), 0, pos⟩, 0) := by
  rw [readP]; simp only [hc, if_true]
theorem readP_digit (c : UInt8) (r : List UInt8) (pos : Int) (hd : digI c.toNat = true) :
    readP (c :: r) pos = if (valueP ((c :: r).take (spanN digI (c :: r)))).2 = 0 then (⟨2, (c :: r).take (spanN digI (c :: r)), (valueP ((c :: r).take (spanN digI (c :: r)))).1, pos⟩, 0) else (Lx.zero, (valueP ((c :: r).take (spanN digI (c :: r)))).2) := by
  rw [readP]; simp only [dig_not_let hd, hd, if_true, Bool.false_eq_true, if_false]
theorem readP_other (c : UInt8) (r : List UInt8) (pos : Int) (hp : partI c.toNat = false) :
    readP (c :: r) pos = if markP (c :: r) = [] then (Lx.zero, 5) else (⟨3, markP (c :: r), 0, pos⟩, 0) := by
  obtain ⟨h1, h2⟩ := not_let hp
  rw [readP]; simp only [h1, h2, Bool.false_eq_true, if_false]
  rw [markP_eq _ (by simp)]
  by_cases h3 : 2 ≤ (c :: r).length ∧ isMarkP ((c :: r).take 2) = true
  · rw [if_pos h3, if_pos h3, if_neg]
    intro h
    have := congrArg List.length h
    rw [List.length_take] at this
    simp at this
  · rw [if_neg h3, if_neg h3]
    by_cases h4 : isMarkP ((c :: r).take 1) = true
    · rw [if_pos h4, if_pos h4, if_neg (by simp)]
    · rw [if_neg h4, if_neg h4, if_pos rfl]

end Saw
