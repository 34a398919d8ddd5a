/-
  '==' and '!=' of two species.
-/
import Derived.Test.YtadflenmdfcflaaDoorSpM
import Derived.Test.YtadflenmdfcflaaDoorLexF
namespace Go.Proofs.YtadflenmdfcflaaDoor
open Go.RowKit Saw

theorem fields_sp : Tryd.prog.underlying 26 = some (.struct (Tryd.prog.fieldsOf 26)) := by kernel_rfl
theorem stood_sp : Tryd.prog.stoodInHeld 26 = false := by kernel_rfl
theorem guard_sp : Tryd.prog.eqGuardType Tryd.prog.depth 26 = false := by kernel_rfl
theorem eqIn_sp (x y : Sp) (W : World) : (Op.equalIn 10000 26 (.agg (spCells x).toArray) (.agg (spCells y).toArray)).run Tryd.prog W = .ok (decide (x = y)) W := by
  have u3 := Tryd.underlying3
  have a3 := Tryd.isAgg3
  have z3 := Tryd.sizeOf3
  have u9 := Tryd.underlying9
  have a9 := Tryd.isAgg9
  have z9 := Tryd.sizeOf9
  rw [show (10000 : Nat) = 9999 + 1 from rfl, run_equalIn_agg W 9999 26 _ _ fields_sp stood_sp]
  simp only [Program.fieldsOf, Tryd.underlying26, spCells]
  go_simp
  simp only [toList_bts, bts_str]
  by_cases hxy : x = y
  · subst hxy; simp
  · rw [decide_eq_false hxy]
    by_cases h0 : ¬ x.name = y.name
    · rw [if_neg h0]
    rw [Decidable.not_not] at h0
    rw [if_pos h0]
    by_cases h1 : ¬ x.green = y.green
    · rw [if_neg h1]
    rw [Decidable.not_not] at h1
    rw [if_pos h1]
    by_cases h2 : ¬ x.fast = y.fast
    · rw [if_neg h2]
    rw [Decidable.not_not] at h2
    rw [if_pos h2]
    by_cases h3 : ¬ x.slow = y.slow
    · rw [if_neg h3]
    rw [Decidable.not_not] at h3
    rw [if_pos h3]
    by_cases h4 : ¬ x.safe = y.safe
    · rw [if_neg h4]
    rw [Decidable.not_not] at h4
    rw [if_pos h4]
    by_cases h5 : ¬ x.grad = y.grad
    · rw [if_neg h5]
    rw [Decidable.not_not] at h5
    rw [if_pos h5]
    by_cases h6 : ¬ x.crack = y.crack
    · rw [if_neg h6]
    rw [Decidable.not_not] at h6
    rw [if_pos h6]
    by_cases h7 : ¬ x.temp = y.temp
    · rw [if_neg h7]
    rw [Decidable.not_not] at h7
    rw [if_pos h7]
    by_cases h8 : ¬ x.depress = y.depress
    · rw [if_neg h8]
    rw [Decidable.not_not] at h8
    rw [if_pos h8]
    by_cases h9 : ¬ x.density = y.density
    · rw [if_neg h9]
    rw [Decidable.not_not] at h9
    rw [if_pos h9]
    by_cases h10 : ¬ x.stiff = y.stiff
    · rw [if_neg h10]
    rw [Decidable.not_not] at h10
    rw [if_pos h10]
    by_cases h11 : ¬ x.knots = y.knots
    · rw [if_neg h11]
    rw [Decidable.not_not] at h11
    rw [if_pos h11]
    by_cases h12 : ¬ x.shrink = y.shrink
    · rw [if_neg h12]
    rw [Decidable.not_not] at h12
    rw [if_pos h12]
    exact absurd ((Sp.ext_iff' x y).2 ⟨h0, by rw [Sp.nums, Sp.nums, h1, h2, h3, h4, h5, h6, h7, h8, h9, h10, h11, h12]⟩) hxy
theorem eql_sp (x y : Sp) (W : World) : (binOp .eql 26 (.agg (spCells x).toArray) (.agg (spCells y).toArray)).run Tryd.prog W = .ok (.bool (decide (x = y))) W := by
  rw [run_eql_struct, eqIn_sp]
  rfl
theorem neq_sp (x y : Sp) (W : World) : (binOp .neq 26 (.agg (spCells x).toArray) (.agg (spCells y).toArray)).run Tryd.prog W = .ok (.bool (!decide (x = y))) W := by
  rw [run_neq_struct, eqIn_sp]
  rfl

end Go.Proofs.YtadflenmdfcflaaDoor
