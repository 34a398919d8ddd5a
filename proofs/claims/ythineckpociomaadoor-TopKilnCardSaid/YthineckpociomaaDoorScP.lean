/-
  Plain: drying schedules: their checks, ends, targets, texts, and what is read of them.
-/
import Derived.Test.YthineckpociomaaDoorPrP
namespace Saw

/-- A stage of a schedule. -/
structure Stg where
  below : Int
  ticks : Int
  temp : Int
  dep : Int
/-- A schedule. -/
structure Sc where
  name : List UInt8
  ramp : Int
  stages : List Stg
def Stg.zero : Stg := ⟨0, 0, 0, 0⟩
def Sc.zero : Sc := ⟨[], 0, []⟩
instance : DecidableEq Stg := fun a b => decidable_of_iff ([a.below, a.ticks, a.temp, a.dep] = [b.below, b.ticks, b.temp, b.dep]) (by cases a; cases b; simp)
instance : DecidableEq Sc := fun a b => decidable_of_iff (a.name = b.name ∧ a.ramp = b.ramp ∧ a.stages = b.stages) (by cases a; cases b; simp)

def soundP (x : Stg) : Bool := decide (0 ≤ x.below) && decide (x.below ≤ 20000) && decide (0 ≤ x.ticks) && decide (x.ticks ≤ 10000) && (decide (x.below ≠ 0) || decide (x.ticks ≠ 0)) && decide (200 ≤ x.temp) && decide (x.temp ≤ 1200) && decide (0 ≤ x.dep) && decide (x.dep ≤ 400)
theorem soundP_iff {x : Stg} : soundP x = true ↔ 0 ≤ x.below ∧ x.below ≤ 20000 ∧ 0 ≤ x.ticks ∧ x.ticks ≤ 10000 ∧ (x.below ≠ 0 ∨ x.ticks ≠ 0) ∧ 200 ≤ x.temp ∧ x.temp ≤ 1200 ∧ 0 ≤ x.dep ∧ x.dep ≤ 400 := by
  simp only [soundP, Bool.and_eq_true, Bool.or_eq_true, decide_eq_true_eq, and_assoc]
def checkSc (s : Sc) : Int :=
  if isNameP s.name = false then 6 else if s.ramp < 1 ∨ 1200 < s.ramp then 9 else if s.stages.length = 0 then 3 else if 12 < s.stages.length then 4
  else if s.stages.all soundP then 0 else 9
theorem checkSc_ok {s : Sc} (h : checkSc s = 0) : isNameP s.name = true ∧ 1 ≤ s.ramp ∧ s.ramp ≤ 1200 ∧ 1 ≤ s.stages.length ∧ s.stages.length ≤ 12 ∧ ∀ x ∈ s.stages, soundP x = true := by
  unfold checkSc at h
  split at h
  · cases h
  · rename_i h1
    split at h
    · cases h
    · split at h
      · cases h
      · split at h
        · cases h
        · split at h
          · rename_i h5
            exact ⟨by simpa using h1, by omega, by omega, by omega, by omega, List.all_eq_true.1 h5⟩
          · cases h
theorem checkSc_of {s : Sc} (h : isNameP s.name = true ∧ 1 ≤ s.ramp ∧ s.ramp ≤ 1200 ∧ 1 ≤ s.stages.length ∧ s.stages.length ≤ 12 ∧ ∀ x ∈ s.stages, soundP x = true) : checkSc s = 0 := by
  obtain ⟨h1, h2, h3, h4, h5, h6⟩ := h
  rw [checkSc, if_neg (by rw [h1]; decide), if_neg (by omega), if_neg (by omega), if_neg (by omega), if_pos (List.all_eq_true.2 h6)]
def endsSc (s : Sc) (stage ticks mean : Int) : Int × Bool :=
  if stage < 0 ∨ (s.stages.length : Int) ≤ stage then (0, false)
  else if (0 < (s.stages.getD stage.toNat Stg.zero).below ∧ mean ≤ (s.stages.getD stage.toNat Stg.zero).below) ∨ (0 < (s.stages.getD stage.toNat Stg.zero).ticks ∧ (s.stages.getD stage.toNat Stg.zero).ticks ≤ ticks) then (stage + 1, true)
  else (stage, false)
def targetP (s : Sc) (stage maxT maxD : Int) : Int × Int :=
  if stage < 0 ∨ (s.stages.length : Int) ≤ stage then (0, 0) else (min (s.stages.getD stage.toNat Stg.zero).temp maxT, min (s.stages.getD stage.toNat Stg.zero).dep maxD)
/-- The first schedule with a name. -/
def findSc (l : List Sc) (n : List UInt8) : Option Sc := l.find? fun x => x.name == n
/-- A valid list: its head of k schedules given, the rest. -/
def validFrom (l : List Sc) (k : Nat) : Bool := (List.range' k (l.length - k)).all fun i => decide (checkSc (l.getD i Sc.zero) = 0) && (findSc (l.take i) (l.getD i Sc.zero).name).isNone
def validP (l : List Sc) : Bool := decide (l.length ≤ 8) && validFrom l 0
theorem validFrom_end {l : List Sc} {k : Nat} (h : ¬ k < l.length) : validFrom l k = true := by
  rw [validFrom, show l.length - k = 0 by omega]; rfl
theorem validFrom_at {l : List Sc} {k : Nat} {x : Sc} (h : l[k]? = some x) : validFrom l k = (decide (checkSc x = 0) && (findSc (l.take k) x.name).isNone && validFrom l (k + 1)) := by
  have hk := (List.getElem?_eq_some_iff.1 h).1
  have hg : l.getD k Sc.zero = x := by rw [List.getD_eq_getElem?_getD, h]; rfl
  rw [validFrom, show l.length - k = (l.length - (k + 1)) + 1 by omega, List.range'_succ, List.all_cons, hg]
  rfl
theorem validP_all {l : List Sc} (h : validP l = true) : l.length ≤ 8 ∧ ∀ (i : Nat) (x : Sc), l[i]? = some x → checkSc x = 0 ∧ findSc (l.take i) x.name = none := by
  rw [validP, Bool.and_eq_true, decide_eq_true_eq] at h
  refine ⟨h.1, fun i x hx => ?_⟩
  have hi := (List.getElem?_eq_some_iff.1 hx).1
  have := List.all_eq_true.1 h.2 i (by rw [List.mem_range'_1]; omega)
  rw [List.getD_eq_getElem?_getD, hx, Option.getD_some, Bool.and_eq_true, decide_eq_true_eq, Option.isNone_iff_eq_none] at this
  exact this
theorem validP_of {l : List Sc} (h0 : l.length ≤ 8) (h : ∀ (i : Nat) (x : Sc), l[i]? = some x → checkSc x = 0 ∧ findSc (l.take i) x.name = none) : validP l = true := by
  rw [validP, Bool.and_eq_true, decide_eq_true_eq]
  refine ⟨h0, List.all_eq_true.2 fun i hi => ?_⟩
  rw [List.mem_range'_1] at hi
  have hil : i < l.length := by omega
  have hx : l[i]? = some l[i] := List.getElem?_eq_getElem hil
  obtain ⟨h1, h2⟩ := h i _ hx
  rw [List.getD_eq_getElem?_getD, hx, Option.getD_some, Bool.and_eq_true, decide_eq_true_eq, Option.isNone_iff_eq_none]
  exact ⟨h1, h2⟩
theorem validP_take {l : List Sc} (h : validP l = true) (k : Nat) : validP (l.take k) = true := by
  obtain ⟨h1, h2⟩ := validP_all h
  refine validP_of (by rw [List.length_take]; omega) (fun i x hx => ?_)
  rw [List.getElem?_take] at hx
  split at hx
  · rename_i hik
    have := h2 i x hx
    rw [List.take_take, Nat.min_eq_left (by omega)]
    exact this
  · cases hx
/-- The error of the last schedule of a list, behind the others. -/
def lastErr (l : List Sc) (x : Sc) : Int := if 8 ≤ l.length then 4 else if checkSc x ≠ 0 then checkSc x else if (findSc l x.name).isSome then 7 else 0
theorem lastErr_valid {l : List Sc} {x : Sc} (hv : validP l = true) (h : lastErr l x = 0) : validP (l ++ [x]) = true := by
  unfold lastErr at h
  split at h
  · cases h
  · split at h
    · rename_i h2; exact absurd h h2
    · rename_i h2
      split at h
      · cases h
      · rename_i h1 h3
        obtain ⟨v1, v2⟩ := validP_all hv
        refine validP_of (by rw [List.length_append, List.length_singleton]; omega) (fun i y hy => ?_)
        rw [List.getElem?_append] at hy
        split at hy
        · rename_i hil
          rw [List.take_append_of_le_length (by omega)]
          exact v2 i y hy
        · rename_i hil
          have hi : i = l.length := by
            have := (List.getElem?_eq_some_iff.1 hy).1
            simp at this
            omega
          subst hi
          rw [Nat.sub_self] at hy
          injection hy with hy
          subst hy
          refine ⟨Decidable.not_not.1 h2, ?_⟩
          rw [List.take_left']
          · simpa using h3
          · rfl

/-! ### Texts -/
def scheduleW : List UInt8 := [115, 99, 104, 101, 100, 117, 108, 101]
def rampW : List UInt8 := [114, 97, 109, 112]
def belowW : List UInt8 := [98, 101, 108, 111, 119]
def forW : List UInt8 := [102, 111, 114]
def atW : List UInt8 := [97, 116]
def partText (w : List UInt8) (n : Int) : List UInt8 := if n ≠ 0 then [32] ++ w ++ [32] ++ Go.Lib.itoa n else []
def stgText (x : Stg) : List UInt8 := partText belowW x.below ++ partText forW x.ticks ++ ([32] ++ atW ++ [32] ++ Go.Lib.itoa x.temp ++ [32, 45, 32] ++ Go.Lib.itoa x.dep ++ [59])
def scHead (x : Sc) : List UInt8 := scheduleW ++ [32] ++ x.name ++ [32] ++ rampW ++ [32] ++ Go.Lib.itoa x.ramp ++ [58]
def scText (x : Sc) : List UInt8 := scHead x ++ x.stages.flatMap stgText ++ [10]
def formatSc (l : List Sc) : List UInt8 := if validP l = true then l.flatMap scText else []

/-! ### What is read -/
/-- A word and a number above 0, if the word is there. -/
def partS (xs : List Lx) (s : Nat × Bool) (w : List UInt8) : Int × (Nat × Bool) :=
  if okS xs s (1, w) then
    if (lxAt xs (s.1 + 1)).kind = 2 ∧ 1 ≤ (lxAt xs (s.1 + 1)).num then ((lxAt xs (s.1 + 1)).num, (s.1 + 2, false)) else (0, (s.1 + 1, true))
  else (0, s)
def stg1 (xs : List Lx) (s : Nat × Bool) : Nat × Bool := (partS xs s belowW).2
def stg2 (xs : List Lx) (s : Nat × Bool) : Nat × Bool := (partS xs (stg1 xs s) forW).2
def stg3 (xs : List Lx) (s : Nat × Bool) : Nat × Bool := if (partS xs s belowW).1 = 0 ∧ (partS xs (stg1 xs s) forW).1 = 0 then ((stg2 xs s).1, true) else stg2 xs s
def stg4 (xs : List Lx) (s : Nat × Bool) : Nat × Bool := nextS xs (stg3 xs s) (1, atW)
def stg5 (xs : List Lx) (s : Nat × Bool) : Nat × Bool := nextS xs (stg4 xs s) (2, [])
def stg6 (xs : List Lx) (s : Nat × Bool) : Nat × Bool := nextS xs (stg5 xs s) (3, [45])
def stg7 (xs : List Lx) (s : Nat × Bool) : Nat × Bool := nextS xs (stg6 xs s) (2, [])
def stg8 (xs : List Lx) (s : Nat × Bool) : Nat × Bool := nextS xs (stg7 xs s) (3, [59])
/-- A stage, and the reader behind it. -/
def stgS (xs : List Lx) (s : Nat × Bool) : Stg × (Nat × Bool) :=
  (⟨(partS xs s belowW).1, (partS xs (stg1 xs s) forW).1, (lexS xs (stg4 xs s) (2, [])).num, (lexS xs (stg6 xs s) (2, [])).num⟩, stg8 xs s)
/-- The stages of a schedule. -/
def stgsS (xs : List Lx) : Nat → Nat × Bool → List Stg → List Stg × (Nat × Bool)
  | 0, s, acc => (acc, s)
  | n + 1, s, acc =>
    if s.2 = true ∨ (lxAt xs s.1).kind = 0 ∨ lxIs (lxAt xs s.1) 1 scheduleW = true then (acc, s)
    else stgsS xs n (stgS xs s).2 (acc ++ [(stgS xs s).1])
def sc1 (xs : List Lx) (s : Nat × Bool) : Nat × Bool := nextS xs s (1, scheduleW)
def sc2 (xs : List Lx) (s : Nat × Bool) : Nat × Bool := nextS xs (sc1 xs s) (1, [])
def sc3 (xs : List Lx) (s : Nat × Bool) : Nat × Bool := nextS xs (sc2 xs s) (1, rampW)
def sc4 (xs : List Lx) (s : Nat × Bool) : Nat × Bool := nextS xs (sc3 xs s) (2, [])
def sc5 (xs : List Lx) (s : Nat × Bool) : Nat × Bool := nextS xs (sc4 xs s) (3, [58])
/-- A schedule, and the reader behind it. -/
def scS (xs : List Lx) (s : Nat × Bool) : Sc × (Nat × Bool) :=
  (⟨(lexS xs (sc1 xs s) (1, [])).text, (lexS xs (sc3 xs s) (2, [])).num, (stgsS xs xs.length (sc5 xs s) []).1⟩, (stgsS xs xs.length (sc5 xs s) []).2)
def scsAll (xs : List Lx) : Nat → Nat → List Sc → List Sc × Int × Int
  | 0, _, acc => (acc, 0, 0)
  | n + 1, k, acc =>
    if (lxAt xs k).kind = 0 then (acc, 0, 0)
    else if (scS xs (k, false)).2.2 = true then ([], 5, (lxAt xs (scS xs (k, false)).2.1).off)
    else if lastErr acc (scS xs (k, false)).1 ≠ 0 then ([], lastErr acc (scS xs (k, false)).1, (lxAt xs k).off)
    else scsAll xs n (scS xs (k, false)).2.1 (acc ++ [(scS xs (k, false)).1])
/-- The schedules that a text describes, or an error and its offset. -/
def parseSc (l : List UInt8) : List Sc × Int × Int :=
  if (scanP l).2.1 ≠ 0 then ([], (scanP l).2.1, (scanP l).2.2) else scsAll (scanP l).1 (scanP l).1.length 0 []

theorem partS_in {xs : List Lx} (he : LxEnds xs) {s : Nat × Bool} {w : List UInt8} (h : s.1 < xs.length) : (partS xs s w).2.1 < xs.length := by
  unfold partS
  split
  · rename_i h1
    have h2 : s.1 + 1 < xs.length := lxEnds_next he h (by rw [lxFits_kind (okS_two h1).2]; show (1 : Int) ≠ 0; decide)
    split
    · rename_i h3
      exact lxEnds_next he h2 (by rw [h3.1]; decide)
    · exact h2
  · exact h
theorem partS_ge (xs : List Lx) (s : Nat × Bool) (w : List UInt8) : s.1 ≤ (partS xs s w).2.1 := by
  unfold partS
  split
  · split <;> simp
  · exact Nat.le_refl _
theorem stg_in {xs : List Lx} (he : LxEnds xs) {s : Nat × Bool} (h : s.1 < xs.length) : (stg1 xs s).1 < xs.length ∧ (stg2 xs s).1 < xs.length ∧ (stg3 xs s).1 < xs.length ∧ (stg4 xs s).1 < xs.length ∧ (stg5 xs s).1 < xs.length ∧ (stg6 xs s).1 < xs.length ∧ (stg7 xs s).1 < xs.length ∧ (stg8 xs s).1 < xs.length := by
  have h1 : (stg1 xs s).1 < xs.length := partS_in he h
  have h2 : (stg2 xs s).1 < xs.length := partS_in he h1
  have h3 : (stg3 xs s).1 < xs.length := by unfold stg3; split <;> exact h2
  have h4 : (stg4 xs s).1 < xs.length := nextS_in he (by decide) h3
  have h5 : (stg5 xs s).1 < xs.length := nextS_in he (by decide) h4
  have h6 : (stg6 xs s).1 < xs.length := nextS_in he (by decide) h5
  have h7 : (stg7 xs s).1 < xs.length := nextS_in he (by decide) h6
  exact ⟨h1, h2, h3, h4, h5, h6, h7, nextS_in he (by decide) h7⟩
theorem stgS_ge (xs : List Lx) (s : Nat × Bool) : s.1 ≤ (stgS xs s).2.1 := by
  have h3 : (stg3 xs s).1 = (stg2 xs s).1 := by unfold stg3; split <;> rfl
  have h2 : s.1 ≤ (stg3 xs s).1 := by rw [h3]; exact Nat.le_trans (partS_ge xs s belowW) (partS_ge xs _ forW)
  exact Nat.le_trans h2 (Nat.le_trans (nextS_ge _ _ _) (Nat.le_trans (nextS_ge _ _ _) (Nat.le_trans (nextS_ge _ _ _) (Nat.le_trans (nextS_ge _ _ _) (nextS_ge _ _ _)))))
theorem stgS_gt {xs : List Lx} {s : Nat × Bool} (h : (stgS xs s).2.2 = false) : s.1 < (stgS xs s).2.1 := by
  have h1 := (nextS_ok h).2.1
  have h3 : (stg3 xs s).1 = (stg2 xs s).1 := by unfold stg3; split <;> rfl
  have h2 : s.1 ≤ (stg3 xs s).1 := by rw [h3]; exact Nat.le_trans (partS_ge xs s belowW) (partS_ge xs _ forW)
  have h7 : s.1 ≤ (stg7 xs s).1 := Nat.le_trans h2 (Nat.le_trans (nextS_ge _ _ _) (Nat.le_trans (nextS_ge _ _ _) (Nat.le_trans (nextS_ge _ _ _) (nextS_ge _ _ _))))
  have h8 : (stgS xs s).2 = ((stg7 xs s).1 + 1, false) := h1
  rw [h8]
  show s.1 < _ + 1
  omega
theorem stgsS_in {xs : List Lx} (he : LxEnds xs) : ∀ (n : Nat) (s : Nat × Bool) (acc : List Stg), s.1 < xs.length → (stgsS xs n s acc).2.1 < xs.length
  | 0, s, acc, h => h
  | n + 1, s, acc, h => by
    rw [stgsS]
    split
    · exact h
    · exact stgsS_in he n _ _ (stg_in he h).2.2.2.2.2.2.2
theorem stgsS_ge (xs : List Lx) : ∀ (n : Nat) (s : Nat × Bool) (acc : List Stg), s.1 ≤ (stgsS xs n s acc).2.1
  | 0, s, acc => Nat.le_refl _
  | n + 1, s, acc => by
    rw [stgsS]
    split
    · exact Nat.le_refl _
    · exact Nat.le_trans (stgS_ge xs s) (stgsS_ge xs n _ _)
theorem sc_in {xs : List Lx} (he : LxEnds xs) {s : Nat × Bool} (h : s.1 < xs.length) : (sc1 xs s).1 < xs.length ∧ (sc2 xs s).1 < xs.length ∧ (sc3 xs s).1 < xs.length ∧ (sc4 xs s).1 < xs.length ∧ (sc5 xs s).1 < xs.length := by
  have h1 : (sc1 xs s).1 < xs.length := nextS_in he (by decide) h
  have h2 : (sc2 xs s).1 < xs.length := nextS_in he (by decide) h1
  have h3 : (sc3 xs s).1 < xs.length := nextS_in he (by decide) h2
  have h4 : (sc4 xs s).1 < xs.length := nextS_in he (by decide) h3
  exact ⟨h1, h2, h3, h4, nextS_in he (by decide) h4⟩
theorem scS_in {xs : List Lx} (he : LxEnds xs) {s : Nat × Bool} (h : s.1 < xs.length) : (scS xs s).2.1 < xs.length := stgsS_in he _ _ _ (sc_in he h).2.2.2.2
theorem nextS_bad' {xs : List Lx} {s : Nat × Bool} {p : Int × List UInt8} (h : (nextS xs s p).2 = false) : s.2 = false := (okS_two (nextS_ok h).1).1
theorem stgsS_bad {xs : List Lx} : ∀ (n : Nat) (s : Nat × Bool) (acc : List Stg), (stgsS xs n s acc).2.2 = false → s.2 = false
  | 0, s, acc, h => h
  | n + 1, s, acc, h => by
    rw [stgsS] at h
    split at h
    · exact h
    · rename_i h0
      cases hs : s.2 with
      | false => rfl
      | true => exact absurd (.inl hs) h0
theorem scS_gt {xs : List Lx} {s : Nat × Bool} (h : (scS xs s).2.2 = false) : s.1 < (scS xs s).2.1 := by
  have h5 := stgsS_bad _ _ _ h
  have h4 := nextS_bad' h5
  have h3 := nextS_bad' h4
  have h2 := nextS_bad' h3
  have h1 := nextS_bad' h2
  have e1 : (sc1 xs s).1 = s.1 + 1 := by rw [sc1, (nextS_ok h1).2.1]
  have : (sc1 xs s).1 ≤ (sc5 xs s).1 := Nat.le_trans (nextS_ge _ _ _) (Nat.le_trans (nextS_ge _ _ _) (Nat.le_trans (nextS_ge _ _ _) (nextS_ge _ _ _)))
  have h6 := stgsS_ge xs xs.length (sc5 xs s) []
  show s.1 < (stgsS xs xs.length (sc5 xs s) []).2.1
  omega

end Saw
