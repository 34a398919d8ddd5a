/-
  Plain: decimal numerals, by a count.
-/
import Derived.Test.YtadflenmdfcflaaDoorPlain
import Derived.Lib.ItoaLen
namespace Saw

/-- The decimal digits of a number, at most as many as the count says. -/
def decF : Nat → Nat → List UInt8
  | 0, u => [UInt8.ofNat (48 + u % 10)]
  | n + 1, u => if u < 10 then [UInt8.ofNat (48 + u)] else decF n (u / 10) ++ [UInt8.ofNat (48 + u % 10)]
theorem decF_eq : ∀ (n u : Nat), u < 10 ^ (n + 1) → decF n u = Go.Lib.decDigits u
  | 0, u, h => by
    rw [Go.Lib.decDigits, dif_pos (by simpa using h), decF, Nat.mod_eq_of_lt (by simpa using h)]
  | n + 1, u, h => by
    rw [Go.Lib.decDigits, decF]
    by_cases h10 : u < 10
    · rw [if_pos h10, dif_pos h10]
    · rw [if_neg h10, dif_neg h10, decF_eq n (u / 10) (by rw [Nat.div_lt_iff_lt_mul (by decide)]; rw [Nat.pow_succ] at h; exact h)]
theorem itoa_decF (n : Int) (h0 : 0 ≤ n) (h1 : n < 10000000000000000000) : Go.Lib.itoa n = decF 18 n.toNat := by
  rw [Go.Lib.itoa, if_neg (by omega), decF_eq]
  have : (10 : Nat) ^ (18 + 1) = 10000000000000000000 := by decide
  omega

end Saw
