/-
  A slice that reads as a list of rows of cells: the words, and what keeps them.
-/
import Derived.WalkKit
import Derived.WalkSpells
import Derived.WalkLawsBesides
import Derived.Lib.Hide
import Derived.Deep.QuietTactic
import Derived.BigQuiet
namespace Go.RowKit

/-- The slice value v holds n elements of size cells each: the cells xs; it lies below block B. -/
def Rd (w : World) (B size : Nat) (v : Value) (n : Nat) (xs : List Value) : Prop :=
  xs.length = n * size ∧ n ≤ maxLen ∧ ∃ A c, v = .slice A n c ∧ n ≤ c ∧ (0 < n → ∃ b off, A = some ⟨b, off, none⟩ ∧ b < B ∧ ∀ j u, xs[j]? = some u → w.cell? ⟨b, off + j, none⟩ = some u)

section
variable {w w' : World} {B B' size n : Nat} {v : Value} {xs : List Value}
theorem Rd.keep (h : Rd w B size v n xs) (hk : ∀ p : Addr, p.block < B → w'.cell? p = w.cell? p) : Rd w' B size v n xs := by
  obtain ⟨h1, h2, A, c, rfl, hc, h3⟩ := h
  refine ⟨h1, h2, A, c, rfl, hc, fun hn => ?_⟩
  obtain ⟨b, off, rfl, hb, hcell⟩ := h3 hn
  exact ⟨b, off, rfl, hb, fun j u hu => (hk _ hb).trans (hcell j u hu)⟩
theorem Rd.more (h : Rd w B size v n xs) (hB : B ≤ B') : Rd w B' size v n xs := by
  obtain ⟨h1, h2, A, c, rfl, hc, h3⟩ := h
  refine ⟨h1, h2, A, c, rfl, hc, fun hn => ?_⟩
  obtain ⟨b, off, rfl, hb, hcell⟩ := h3 hn
  exact ⟨b, off, rfl, by omega, hcell⟩
theorem Rd.below (h : Rd w B size v n xs) (hb : Below B w w') : Rd w' B size v n xs := h.keep fun _ hp => hb.cell hp
/-- A slice below the heap's size stays as it is, and is below the new size. -/
theorem Rd.next (h : Rd w w.heap.size size v n xs) (hb : Below w.heap.size w w') : Rd w' w'.heap.size size v n xs := (h.below hb).more hb.size
theorem Rd.drewN (h : Rd w B size v n xs) (k : Nat) : Rd (w.drewN k) B size v n xs := h
theorem Rd.alloc (h : Rd w w.heap.size size v n xs) (o : Obj) : Rd (w.alloc o) (w.alloc o).heap.size size v n xs :=
  h.next ((Below.refl _ _).alloc (Nat.le_refl _) o)
theorem Rd.of_own {base : Nat} {e : TypeId} (h : w.ownsRow base e size v n xs) : Rd w w.heap.size size v n xs := by
  obtain ⟨h1, h2⟩ := h
  rcases h2 with ⟨rfl, rfl⟩ | ⟨g, cap, cur, rfl, hbg, hgg, hn, hcap, hcs, htk⟩
  · exact ⟨h1, by simp [maxLen], none, 0, rfl, Nat.le_refl _, fun h => absurd h (by omega)⟩
  · refine ⟨h1, by omega, _, _, rfl, hn, fun _ => ⟨g, 0, rfl, (Array.getElem?_eq_some_iff.1 hgg).1, fun j u hu => ?_⟩⟩
    rw [Nat.zero_add, cell_of_row w g j cur e (0, 0) hgg]
    rw [← htk, List.getElem?_take] at hu
    split at hu
    · simpa using hu
    · cases hu
theorem Rd.none_ : Rd w B size (.slice none 0 0) 0 [] := ⟨by simp, by simp [maxLen], none, 0, rfl, Nat.le_refl _, fun h => absurd h (by omega)⟩
end

end Go.RowKit
