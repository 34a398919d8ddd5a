/-
  Plain: the standard species; shrinking.
-/
import Derived.Test.YtadflenmdfcflaaDoorWoodP
namespace Saw

def sp_pine : Sp := ⟨[112, 105, 110, 101], 9000, 500, 80, 600, 2500, 20000, 800, 250, 480, 11000, 400, 60⟩
def sp_spruce : Sp := ⟨[115, 112, 114, 117, 99, 101], 8000, 600, 100, 700, 2500, 20000, 850, 280, 430, 11500, 450, 65⟩
def sp_oak : Sp := ⟨[111, 97, 107], 8000, 150, 20, 300, 1500, 8000, 600, 120, 650, 12500, 350, 75⟩
def sp_beech : Sp := ⟨[98, 101, 101, 99, 104], 7500, 250, 40, 400, 1800, 12000, 700, 180, 680, 14000, 300, 100⟩
def stdSp : List Sp := [sp_pine, sp_spruce, sp_oak, sp_beech]

def clampP (n lo hi : Int) : Int := if hi < lo ∨ n < lo then lo else if hi < n then hi else n
theorem clampP_bd (n : Int) : 0 ≤ clampP n 0 3000 ∧ clampP n 0 3000 ≤ 3000 := by unfold clampP; (repeat' split) <;> omega
/-- A dimension after drying. -/
def shrunkP (s size moist : Int) : Int :=
  if size < 0 ∨ 20000 < size ∨ s < 0 ∨ 200 < s then size else size - size * s * (3000 - clampP moist 0 3000) / 3000000

end Saw
