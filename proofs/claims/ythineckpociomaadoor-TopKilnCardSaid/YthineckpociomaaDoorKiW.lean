/-
  Plain: the two runs of kilnAwake.
-/
import Derived.Test.YthineckpociomaaDoorKiS
namespace Saw
def softP : Sc := ⟨[115, 111, 102, 116], 20, [⟨1500, 0, 600, 200⟩, ⟨0, 12, 600, 50⟩]⟩
def pineP : Sp := ⟨[112, 105, 110, 101], 8000, 400, 60, 300, 900, 5000, 900, 300, 500, 12000, 500, 70⟩
def greenB (n : Int) : Bd := ⟨[66, 48, 48, 48, 48, 48, 49, 77], [76, 48, 48, 48, 48, 48, 49, 87], [112, 105, 110, 101], 0, 0, 105, 0, 42, 0, 2000, 8820000, none, 0, 0, 0, n, n, 0, false, 0⟩
def runA : Ru := runP softP pineP [] 400 [(42, ⟨4000, 4000, 0⟩)]
def runB : Ru := runP softP pineP [⟨2, 0, 400⟩] 400 [(42, ⟨4000, 4000, 0⟩)]
def okA (r : Ru) : Bool := decide (r.hot.temp ≤ 900) && decide (r.hot.dep ≤ 300) && decide (r.grad ≤ 900) && decide (0 < r.k.ticks) && r.k.items.all fun x => decide (x.2.surf < 4000)
def okB (r : Ru) : Bool := decide (r.hot.temp ≤ 900) && decide (r.hot.dep ≤ 300) && decide (r.grad ≤ 900) && decide (r.k.ticks = 400) && decide (r.k.items = [(42, ⟨4000, 4000, 0⟩)])
set_option maxRecDepth 1000000 in
theorem runA_ok : okA runA = true := by decide +kernel
set_option maxRecDepth 1000000 in
theorem runB_ok : okB runB = true := by decide +kernel
set_option maxRecDepth 1000000 in
theorem dryA : dryE [greenB 4000] pineP softP [] 400 = 0 := by decide +kernel
set_option maxRecDepth 1000000 in
theorem dryB : dryE [greenB 4000] pineP softP [⟨2, 0, 400⟩] 400 = 0 := by decide +kernel
theorem itemsG : [greenB 4000].map itemP = [(42, ⟨4000, 4000, 0⟩)] := by decide +kernel
end Saw
