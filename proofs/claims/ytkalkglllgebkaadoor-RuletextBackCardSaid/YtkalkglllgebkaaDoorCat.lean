/-
  Strings put together.
-/
import Derived.Test.YtkalkglllgebkaaDoorBase
namespace Go.Proofs.YtkalkglllgebkaaDoor
open Go.RowKit Saw

theorem bts_append (a b : ByteArray) : bts (a ++ b) = bts a ++ bts b := by
  simp [bts]
theorem str_append (a b : List UInt8) : str a ++ str b = str (a ++ b) := by
  rw [← str_bts (str a ++ str b), bts_append, bts_str, bts_str]
theorem run_cat (a b : ByteArray) (h : a.size + b.size ≤ 1000000000000) (W : World) : (binOp .add 9 (.string a) (.string b)).run Tryd.prog W = .ok (.string (a ++ b)) W := by
  have u9 := Tryd.underlying9
  go_simp
  omega

end Go.Proofs.YtkalkglllgebkaaDoor
