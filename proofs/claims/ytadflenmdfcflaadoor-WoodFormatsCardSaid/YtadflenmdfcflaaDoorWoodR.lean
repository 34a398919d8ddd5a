/-
  Plain: the statements of a catalog of species, out of lexemes.
-/
import Derived.Test.YtadflenmdfcflaaDoorWoodQ
import Derived.Test.YtadflenmdfcflaaDoorScanP
namespace Saw

def lxAt (xs : List Lx) (k : Nat) : Lx := (xs[k]?).getD Lx.zero
def lxIs (x : Lx) (kind : Int) (t : List UInt8) : Bool := x.kind == kind && x.text == t
/-- The last lexeme alone is the end. -/
def LxEnds (xs : List Lx) : Prop := ∀ i x, xs[i]? = some x → x.kind ≠ 0 → i + 1 < xs.length

def wordsL : List (List UInt8) := [[103, 114, 101, 101, 110], [102, 97, 115, 116], [115, 108, 111, 119], [115, 97, 102, 101], [103, 114, 97, 100, 105, 101, 110, 116], [99, 114, 97, 99, 107], [116, 101, 109, 112], [100, 101, 112, 114, 101, 115, 115], [100, 101, 110, 115, 105, 116, 121], [115, 116, 105, 102, 102], [107, 110, 111, 116, 115], [115, 104, 114, 105, 110, 107]]
def speciesW : List UInt8 := [115, 112, 101, 99, 105, 101, 115]

/-- The words and numbers of a species, from an index on. -/
def readNums (xs : List Lx) : List (List UInt8) → Nat → List Int → List Int × Nat × Bool
  | [], k, acc => (acc, k, true)
  | w :: ws, k, acc => if lxIs (lxAt xs k) 1 w then (if (lxAt xs (k + 1)).kind == 2 then readNums xs ws (k + 2) (acc ++ [(lxAt xs (k + 1)).num]) else (acc, k + 1, false)) else (acc, k, false)

def mkSp (name : List UInt8) (n : List Int) : Sp := ⟨name, n.getD 0 0, n.getD 1 0, n.getD 2 0, n.getD 3 0, n.getD 4 0, n.getD 5 0, n.getD 6 0, n.getD 7 0, n.getD 8 0, n.getD 9 0, n.getD 10 0, n.getD 11 0⟩

/-- A statement that begins at an index: the species, the index behind it (or of the lexeme that does not fit), whether it is complete. -/
def stmtP (xs : List Lx) (k : Nat) : Sp × Nat × Bool :=
  if lxIs (lxAt xs k) 1 speciesW then
    (if (lxAt xs (k + 1)).kind == 1 then
      (if (readNums xs wordsL (k + 2) []).2.2 then
        (mkSp (lxAt xs (k + 1)).text (readNums xs wordsL (k + 2) []).1, if lxIs (lxAt xs (readNums xs wordsL (k + 2) []).2.1) 3 [59] then (readNums xs wordsL (k + 2) []).2.1 + 1 else (readNums xs wordsL (k + 2) []).2.1, lxIs (lxAt xs (readNums xs wordsL (k + 2) []).2.1) 3 [59])
      else (Sp.zero, (readNums xs wordsL (k + 2) []).2.1, false))
    else (Sp.zero, k + 1, false))
  else (Sp.zero, k, false)

theorem lxAt_some {xs : List Lx} {k : Nat} (h : k < xs.length) : xs[k]? = some (lxAt xs k) := by
  rw [lxAt, List.getElem?_eq_getElem h]; rfl
theorem lxEnds_next {xs : List Lx} (he : LxEnds xs) {k : Nat} (h : k < xs.length) (hk : (lxAt xs k).kind ≠ 0) : k + 1 < xs.length := he k _ (lxAt_some h) hk
theorem lxIs_kind {x : Lx} {kind : Int} {t : List UInt8} (h : lxIs x kind t = true) : x.kind = kind := by
  rw [lxIs, Bool.and_eq_true, beq_iff_eq] at h; exact h.1
theorem readNums_in {xs : List Lx} (he : LxEnds xs) : ∀ (ws : List (List UInt8)) (k : Nat) (acc : List Int), k < xs.length → (readNums xs ws k acc).2.1 < xs.length
  | [], k, acc, h => h
  | w :: ws, k, acc, h => by
    rw [readNums]
    by_cases h1 : lxIs (lxAt xs k) 1 w = true
    · rw [if_pos h1]
      have h2 := lxEnds_next he h (by rw [lxIs_kind h1]; decide)
      by_cases h3 : ((lxAt xs (k + 1)).kind == 2) = true
      · rw [if_pos h3]
        exact readNums_in he ws (k + 2) _ (lxEnds_next he h2 (by rw [beq_iff_eq.1 h3]; decide))
      · rw [if_neg h3]; exact h2
    · rw [if_neg h1]; exact h

end Saw
