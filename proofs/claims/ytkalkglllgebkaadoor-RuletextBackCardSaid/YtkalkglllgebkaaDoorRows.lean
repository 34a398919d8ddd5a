/-
  NARROWER THAN 'FOR EVERY INPUT', by the rows' own cells (each row's printed sentence says how): RuletextExprs: loops, laid · RuletextReads: laid · RuletextTables: loops, laid · RuletextParses: laid · RuletextSames: loops, laid · RuletextEquals: laid · RuletextShort: laid · RuletextBack: loops, laid.
  DERIVED. THE GIVEN ROWS OF THIS SEAT. 8 by the template 'for every input the law returns true; each argument reads behind the call as it read before'; 0 by the template 'total and deterministic' (their statements: YtkalkglllgebkaaDoorTotals.lean).
  GIVEN WITH THE SEED: the statements are not yours to turn. If you find one false, say at which input.
  Laid BY PROGRAM, IN A SANDBOX (cutbox-rows.mjs): the forced cells as the released guide's own fill.sh prints them over the translation b647408746ff9306… (all of the seat's roots in one cut). By AI agents, Wed Nov 11 2026. No macro, syntax, notation, axiom, sorry.
-/
import Derived.Test.YtkalkglllgebkaaDoorChecked
import GoSem.Claim
import GoSem.ClaimJoined
import GoSem.ClaimMapViews
import Derived.JoinedTies
import Derived.KernelRfl
namespace Go.Proofs.YtkalkglllgebkaaDoor
/- THE CELL 'sum', in the pinned program and in every row, IS THE sha256 OF THE DUMP (.gsa) THAT YtkalkglllgebkaaDoorProg.lean LOADS. Nothing in Lean hashes anything: it is a label: what it is worth is what the hold of that sum in a sandbox is worth. -/
noncomputable def Tryd.pinned : Pinned := { name := "ytkalkglllgebkaadoor", sum := "b647408746ff93068b5991de9672d30168f7e1bba6edf0b1f2738aa3ad4e4e6b", checked := Tryd.checked }
namespace Rows
def none {H : Type} : Left H := { results := [], args := [] }

/- WHAT THE LISTED PACKAGE-LEVEL VARIABLES READ AS WHEN THE CALL BEGINS. Each datum BY PROGRAM (the guide's laid-datum.mjs) off the statement by which the dump's own 'gosem.cut.vars' lays the variable. In a bare row this is a premise. The card (YtkalkglllgebkaaDoorCards.lean) ties it to the program's text. -/
def laid_math_bits_deBruijn32tab {H : Type} : DataW H := .agg [.lit (.int .u8 0), .lit (.int .u8 1), .lit (.int .u8 28), .lit (.int .u8 2), .lit (.int .u8 29), .lit (.int .u8 14), .lit (.int .u8 24), .lit (.int .u8 3), .lit (.int .u8 30), .lit (.int .u8 22), .lit (.int .u8 20), .lit (.int .u8 15), .lit (.int .u8 25), .lit (.int .u8 17), .lit (.int .u8 4), .lit (.int .u8 8), .lit (.int .u8 31), .lit (.int .u8 27), .lit (.int .u8 13), .lit (.int .u8 23), .lit (.int .u8 21), .lit (.int .u8 19), .lit (.int .u8 16), .lit (.int .u8 7), .lit (.int .u8 26), .lit (.int .u8 12), .lit (.int .u8 18), .lit (.int .u8 6), .lit (.int .u8 11), .lit (.int .u8 5), .lit (.int .u8 10), .lit (.int .u8 9)]
def laid_math_bits_deBruijn64tab {H : Type} : DataW H := .agg [.lit (.int .u8 0), .lit (.int .u8 1), .lit (.int .u8 56), .lit (.int .u8 2), .lit (.int .u8 57), .lit (.int .u8 49), .lit (.int .u8 28), .lit (.int .u8 3), .lit (.int .u8 61), .lit (.int .u8 58), .lit (.int .u8 42), .lit (.int .u8 50), .lit (.int .u8 38), .lit (.int .u8 29), .lit (.int .u8 17), .lit (.int .u8 4), .lit (.int .u8 62), .lit (.int .u8 47), .lit (.int .u8 59), .lit (.int .u8 36), .lit (.int .u8 45), .lit (.int .u8 43), .lit (.int .u8 51), .lit (.int .u8 22), .lit (.int .u8 53), .lit (.int .u8 39), .lit (.int .u8 33), .lit (.int .u8 30), .lit (.int .u8 24), .lit (.int .u8 18), .lit (.int .u8 12), .lit (.int .u8 5), .lit (.int .u8 63), .lit (.int .u8 55), .lit (.int .u8 48), .lit (.int .u8 27), .lit (.int .u8 60), .lit (.int .u8 41), .lit (.int .u8 37), .lit (.int .u8 16), .lit (.int .u8 46), .lit (.int .u8 35), .lit (.int .u8 44), .lit (.int .u8 21), .lit (.int .u8 52), .lit (.int .u8 32), .lit (.int .u8 23), .lit (.int .u8 11), .lit (.int .u8 54), .lit (.int .u8 26), .lit (.int .u8 40), .lit (.int .u8 15), .lit (.int .u8 34), .lit (.int .u8 20), .lit (.int .u8 31), .lit (.int .u8 10), .lit (.int .u8 25), .lit (.int .u8 14), .lit (.int .u8 19), .lit (.int .u8 9), .lit (.int .u8 13), .lit (.int .u8 8), .lit (.int .u8 7), .lit (.int .u8 6)]
def laid_internal_strconv_uint64pow10 {H : Type} : DataW H := .agg [.lit (.int .u64 1), .lit (.int .u64 10), .lit (.int .u64 100), .lit (.int .u64 1000), .lit (.int .u64 10000), .lit (.int .u64 100000), .lit (.int .u64 1000000), .lit (.int .u64 10000000), .lit (.int .u64 100000000), .lit (.int .u64 1000000000), .lit (.int .u64 10000000000), .lit (.int .u64 100000000000), .lit (.int .u64 1000000000000), .lit (.int .u64 10000000000000), .lit (.int .u64 100000000000000), .lit (.int .u64 1000000000000000), .lit (.int .u64 10000000000000000), .lit (.int .u64 100000000000000000), .lit (.int .u64 1000000000000000000), .lit (.int .u64 10000000000000000000)]
def laid_sawmill_ruletext_operators {H : Type} : DataW H := .agg [.agg [.lit (.string []), .lit (.int .i64 0), .lit (.int .i64 0), .lit (.int .i64 0)], .agg [.lit (.string []), .lit (.int .i64 7), .lit (.int .i64 0), .lit (.int .i64 0)], .agg [.lit (.string []), .lit (.int .i64 7), .lit (.int .i64 0), .lit (.int .i64 0)], .agg [.lit (.string [43]), .lit (.int .i64 5), .lit (.int .i64 5), .lit (.int .i64 6)], .agg [.lit (.string [45]), .lit (.int .i64 5), .lit (.int .i64 5), .lit (.int .i64 6)], .agg [.lit (.string [42]), .lit (.int .i64 6), .lit (.int .i64 6), .lit (.int .i64 7)], .agg [.lit (.string [61]), .lit (.int .i64 4), .lit (.int .i64 5), .lit (.int .i64 5)], .agg [.lit (.string [60]), .lit (.int .i64 4), .lit (.int .i64 5), .lit (.int .i64 5)], .agg [.lit (.string [60, 61]), .lit (.int .i64 4), .lit (.int .i64 5), .lit (.int .i64 5)], .agg [.lit (.string [110, 111, 116]), .lit (.int .i64 3), .lit (.int .i64 3), .lit (.int .i64 0)], .agg [.lit (.string [97, 110, 100]), .lit (.int .i64 2), .lit (.int .i64 2), .lit (.int .i64 3)], .agg [.lit (.string [111, 114]), .lit (.int .i64 1), .lit (.int .i64 1), .lit (.int .i64 2)]]

/-- 'sawmilllaw44.RuletextExprs': WHATEVER THE INPUT: true; the input reads as it did. -/
def ruletextExprsSpec : ChangeSpec := { name := "ruletextExprs", fn := fun _ => fun
  | [d] => { results := [.lit (.bool true)], args := [d] }
  | _ => none }
def ruletextExprsRow : OpenClaim := { program := "ytkalkglllgebkaadoor", sum := "b647408746ff93068b5991de9672d30168f7e1bba6edf0b1f2738aa3ad4e4e6b", func := "sawmill/sawmilllaw44.RuletextExprs", spec := "ruletextExprs", inPlace := ["internal/abi.NoEscape"], unfollowed := true, recurses := true, named := ["sawmill/ruletext.operators", "internal/strconv.uint64pow10", "math/bits.deBruijn32tab", "math/bits.deBruijn64tab"], loops := true, apart := false, laid := [("math/bits.deBruijn32tab", laid_math_bits_deBruijn32tab), ("math/bits.deBruijn64tab", laid_math_bits_deBruijn64tab), ("internal/strconv.uint64pow10", laid_internal_strconv_uint64pow10), ("sawmill/ruletext.operators", laid_sawmill_ruletext_operators)] }
def RuletextExprsSaid : Prop := ruletextExprsRow.holds Tryd.pinned (OpenSpec.ofChange ruletextExprsSpec)

/-- ITS FALSE NEIGHBOUR: 'it returns false'. Refute it at one input. -/
def ruletextExprsWrong : ChangeSpec := { name := "ruletextExprs", fn := fun _ => fun
  | [d] => { results := [.lit (.bool false)], args := [d] }
  | _ => none }
def RuletextExprsWrongFalsely : Prop := ruletextExprsRow.holds Tryd.pinned (OpenSpec.ofChange ruletextExprsWrong)

/-- 'sawmilllaw44.RuletextReads': WHATEVER THE INPUT: true; the input reads as it did. -/
def ruletextReadsSpec : ChangeSpec := { name := "ruletextReads", fn := fun _ => fun
  | [d] => { results := [.lit (.bool true)], args := [d] }
  | _ => none }
def ruletextReadsRow : OpenClaim := { program := "ytkalkglllgebkaadoor", sum := "b647408746ff93068b5991de9672d30168f7e1bba6edf0b1f2738aa3ad4e4e6b", func := "sawmill/sawmilllaw44.RuletextReads", spec := "ruletextReads", inPlace := ["internal/abi.NoEscape"], unfollowed := true, recurses := true, named := ["sawmill/ruletext.operators", "internal/strconv.uint64pow10", "math/bits.deBruijn32tab", "math/bits.deBruijn64tab"], apart := false, laid := [("math/bits.deBruijn32tab", laid_math_bits_deBruijn32tab), ("math/bits.deBruijn64tab", laid_math_bits_deBruijn64tab), ("internal/strconv.uint64pow10", laid_internal_strconv_uint64pow10), ("sawmill/ruletext.operators", laid_sawmill_ruletext_operators)] }
def RuletextReadsSaid : Prop := ruletextReadsRow.holds Tryd.pinned (OpenSpec.ofChange ruletextReadsSpec)

/-- ITS FALSE NEIGHBOUR: 'it returns false'. Refute it at one input. -/
def ruletextReadsWrong : ChangeSpec := { name := "ruletextReads", fn := fun _ => fun
  | [d] => { results := [.lit (.bool false)], args := [d] }
  | _ => none }
def RuletextReadsWrongFalsely : Prop := ruletextReadsRow.holds Tryd.pinned (OpenSpec.ofChange ruletextReadsWrong)

/-- 'sawmilllaw44.RuletextTables': WHATEVER THE INPUT: true; the input reads as it did. -/
def ruletextTablesSpec : ChangeSpec := { name := "ruletextTables", fn := fun _ => fun
  | [d] => { results := [.lit (.bool true)], args := [d] }
  | _ => none }
def ruletextTablesRow : OpenClaim := { program := "ytkalkglllgebkaadoor", sum := "b647408746ff93068b5991de9672d30168f7e1bba6edf0b1f2738aa3ad4e4e6b", func := "sawmill/sawmilllaw44.RuletextTables", spec := "ruletextTables", inPlace := ["internal/abi.NoEscape"], unfollowed := true, recurses := true, named := ["sawmill/ruletext.operators", "internal/strconv.uint64pow10", "math/bits.deBruijn32tab", "math/bits.deBruijn64tab"], loops := true, apart := false, laid := [("math/bits.deBruijn32tab", laid_math_bits_deBruijn32tab), ("math/bits.deBruijn64tab", laid_math_bits_deBruijn64tab), ("internal/strconv.uint64pow10", laid_internal_strconv_uint64pow10), ("sawmill/ruletext.operators", laid_sawmill_ruletext_operators)] }
def RuletextTablesSaid : Prop := ruletextTablesRow.holds Tryd.pinned (OpenSpec.ofChange ruletextTablesSpec)

/-- ITS FALSE NEIGHBOUR: 'it returns false'. Refute it at one input. -/
def ruletextTablesWrong : ChangeSpec := { name := "ruletextTables", fn := fun _ => fun
  | [d] => { results := [.lit (.bool false)], args := [d] }
  | _ => none }
def RuletextTablesWrongFalsely : Prop := ruletextTablesRow.holds Tryd.pinned (OpenSpec.ofChange ruletextTablesWrong)

/-- 'sawmilllaw44.RuletextParses': WHATEVER THE INPUT: true; the input reads as it did. -/
def ruletextParsesSpec : ChangeSpec := { name := "ruletextParses", fn := fun _ => fun
  | [d] => { results := [.lit (.bool true)], args := [d] }
  | _ => none }
def ruletextParsesRow : OpenClaim := { program := "ytkalkglllgebkaadoor", sum := "b647408746ff93068b5991de9672d30168f7e1bba6edf0b1f2738aa3ad4e4e6b", func := "sawmill/sawmilllaw44.RuletextParses", spec := "ruletextParses", inPlace := ["internal/abi.NoEscape"], unfollowed := true, recurses := true, named := ["sawmill/ruletext.operators", "internal/strconv.uint64pow10", "math/bits.deBruijn32tab", "math/bits.deBruijn64tab"], apart := false, laid := [("math/bits.deBruijn32tab", laid_math_bits_deBruijn32tab), ("math/bits.deBruijn64tab", laid_math_bits_deBruijn64tab), ("internal/strconv.uint64pow10", laid_internal_strconv_uint64pow10), ("sawmill/ruletext.operators", laid_sawmill_ruletext_operators)] }
def RuletextParsesSaid : Prop := ruletextParsesRow.holds Tryd.pinned (OpenSpec.ofChange ruletextParsesSpec)

/-- ITS FALSE NEIGHBOUR: 'it returns false'. Refute it at one input. -/
def ruletextParsesWrong : ChangeSpec := { name := "ruletextParses", fn := fun _ => fun
  | [d] => { results := [.lit (.bool false)], args := [d] }
  | _ => none }
def RuletextParsesWrongFalsely : Prop := ruletextParsesRow.holds Tryd.pinned (OpenSpec.ofChange ruletextParsesWrong)

/-- 'sawmilllaw44.RuletextSames': WHATEVER THE INPUT: true; the input reads as it did. -/
def ruletextSamesSpec : ChangeSpec := { name := "ruletextSames", fn := fun _ => fun
  | [d1, d2] => { results := [.lit (.bool true)], args := [d1, d2] }
  | _ => none }
def ruletextSamesRow : OpenClaim := { program := "ytkalkglllgebkaadoor", sum := "b647408746ff93068b5991de9672d30168f7e1bba6edf0b1f2738aa3ad4e4e6b", func := "sawmill/sawmilllaw44.RuletextSames", spec := "ruletextSames", inPlace := ["internal/abi.NoEscape"], unfollowed := true, recurses := true, named := ["sawmill/ruletext.operators", "internal/strconv.uint64pow10", "math/bits.deBruijn32tab", "math/bits.deBruijn64tab"], loops := true, apart := false, laid := [("math/bits.deBruijn32tab", laid_math_bits_deBruijn32tab), ("math/bits.deBruijn64tab", laid_math_bits_deBruijn64tab), ("internal/strconv.uint64pow10", laid_internal_strconv_uint64pow10), ("sawmill/ruletext.operators", laid_sawmill_ruletext_operators)] }
def RuletextSamesSaid : Prop := ruletextSamesRow.holds Tryd.pinned (OpenSpec.ofChange ruletextSamesSpec)

/-- ITS FALSE NEIGHBOUR: 'it returns false'. Refute it at one input. -/
def ruletextSamesWrong : ChangeSpec := { name := "ruletextSames", fn := fun _ => fun
  | [d1, d2] => { results := [.lit (.bool false)], args := [d1, d2] }
  | _ => none }
def RuletextSamesWrongFalsely : Prop := ruletextSamesRow.holds Tryd.pinned (OpenSpec.ofChange ruletextSamesWrong)

/-- 'sawmilllaw44.RuletextEquals': WHATEVER THE INPUT: true; the input reads as it did. -/
def ruletextEqualsSpec : ChangeSpec := { name := "ruletextEquals", fn := fun _ => fun
  | [d1, d2] => { results := [.lit (.bool true)], args := [d1, d2] }
  | _ => none }
def ruletextEqualsRow : OpenClaim := { program := "ytkalkglllgebkaadoor", sum := "b647408746ff93068b5991de9672d30168f7e1bba6edf0b1f2738aa3ad4e4e6b", func := "sawmill/sawmilllaw44.RuletextEquals", spec := "ruletextEquals", inPlace := ["internal/abi.NoEscape"], unfollowed := true, recurses := true, named := ["sawmill/ruletext.operators", "internal/strconv.uint64pow10", "math/bits.deBruijn32tab", "math/bits.deBruijn64tab"], apart := false, laid := [("math/bits.deBruijn32tab", laid_math_bits_deBruijn32tab), ("math/bits.deBruijn64tab", laid_math_bits_deBruijn64tab), ("internal/strconv.uint64pow10", laid_internal_strconv_uint64pow10), ("sawmill/ruletext.operators", laid_sawmill_ruletext_operators)] }
def RuletextEqualsSaid : Prop := ruletextEqualsRow.holds Tryd.pinned (OpenSpec.ofChange ruletextEqualsSpec)

/-- ITS FALSE NEIGHBOUR: 'it returns false'. Refute it at one input. -/
def ruletextEqualsWrong : ChangeSpec := { name := "ruletextEquals", fn := fun _ => fun
  | [d1, d2] => { results := [.lit (.bool false)], args := [d1, d2] }
  | _ => none }
def RuletextEqualsWrongFalsely : Prop := ruletextEqualsRow.holds Tryd.pinned (OpenSpec.ofChange ruletextEqualsWrong)

/-- 'sawmilllaw44.RuletextShort': WHATEVER THE INPUT: true; the input reads as it did. -/
def ruletextShortSpec : ChangeSpec := { name := "ruletextShort", fn := fun _ => fun
  | [d] => { results := [.lit (.bool true)], args := [d] }
  | _ => none }
def ruletextShortRow : OpenClaim := { program := "ytkalkglllgebkaadoor", sum := "b647408746ff93068b5991de9672d30168f7e1bba6edf0b1f2738aa3ad4e4e6b", func := "sawmill/sawmilllaw44.RuletextShort", spec := "ruletextShort", inPlace := ["internal/abi.NoEscape"], unfollowed := true, recurses := true, named := ["sawmill/ruletext.operators", "internal/strconv.uint64pow10", "math/bits.deBruijn32tab", "math/bits.deBruijn64tab"], apart := false, laid := [("math/bits.deBruijn32tab", laid_math_bits_deBruijn32tab), ("math/bits.deBruijn64tab", laid_math_bits_deBruijn64tab), ("internal/strconv.uint64pow10", laid_internal_strconv_uint64pow10), ("sawmill/ruletext.operators", laid_sawmill_ruletext_operators)] }
def RuletextShortSaid : Prop := ruletextShortRow.holds Tryd.pinned (OpenSpec.ofChange ruletextShortSpec)

/-- ITS FALSE NEIGHBOUR: 'it returns false'. Refute it at one input. -/
def ruletextShortWrong : ChangeSpec := { name := "ruletextShort", fn := fun _ => fun
  | [d] => { results := [.lit (.bool false)], args := [d] }
  | _ => none }
def RuletextShortWrongFalsely : Prop := ruletextShortRow.holds Tryd.pinned (OpenSpec.ofChange ruletextShortWrong)

/-- 'sawmilllaw44.RuletextBack': WHATEVER THE INPUT: true; the input reads as it did. -/
def ruletextBackSpec : ChangeSpec := { name := "ruletextBack", fn := fun _ => fun
  | [d1, d2] => { results := [.lit (.bool true)], args := [d1, d2] }
  | _ => none }
def ruletextBackRow : OpenClaim := { program := "ytkalkglllgebkaadoor", sum := "b647408746ff93068b5991de9672d30168f7e1bba6edf0b1f2738aa3ad4e4e6b", func := "sawmill/sawmilllaw44.RuletextBack", spec := "ruletextBack", inPlace := ["internal/abi.NoEscape"], unfollowed := true, recurses := true, named := ["sawmill/ruletext.operators", "internal/strconv.uint64pow10", "math/bits.deBruijn32tab", "math/bits.deBruijn64tab"], loops := true, apart := false, laid := [("math/bits.deBruijn32tab", laid_math_bits_deBruijn32tab), ("math/bits.deBruijn64tab", laid_math_bits_deBruijn64tab), ("internal/strconv.uint64pow10", laid_internal_strconv_uint64pow10), ("sawmill/ruletext.operators", laid_sawmill_ruletext_operators)] }
def RuletextBackSaid : Prop := ruletextBackRow.holds Tryd.pinned (OpenSpec.ofChange ruletextBackSpec)

/-- ITS FALSE NEIGHBOUR: 'it returns false'. Refute it at one input. -/
def ruletextBackWrong : ChangeSpec := { name := "ruletextBack", fn := fun _ => fun
  | [d1, d2] => { results := [.lit (.bool false)], args := [d1, d2] }
  | _ => none }
def RuletextBackWrongFalsely : Prop := ruletextBackRow.holds Tryd.pinned (OpenSpec.ofChange ruletextBackWrong)

/- THE SECOND FORM. 'bulk': how many values and letters a reading holds, each counted each time it is reached (what is shared counts as often as it is met; a slice's spare places count too). A statement '..UptoSaid' is the law's where the arguments, and the package variables that the reading takes, are together of bulk at most 1048576: NARROWER than '..Said'. Prove '..Said' where nothing that the law and all that it calls make is longer than what came in: it says more and counts as full. Else prove '..UptoSaid'. A law counts once. -/
mutual
def uptoBulk {H : Type} : DataW H → Nat
  | .lit (.string bytes) => bytes.length + 1
  | .lit _ => 1
  | .nil => 1
  | .ptr d => uptoBulk d + 1
  | .slice elems spare => uptoBulkAll elems + uptoBulkAll spare + 1
  | .agg parts => uptoBulkAll parts + 1
  | .iface _ d => uptoBulk d + 1
  | .map entries => uptoBulkEntries entries + 1
  | .held _ => 1
def uptoBulkAll {H : Type} : List (DataW H) → Nat
  | [] => 0
  | d :: r => uptoBulk d + uptoBulkAll r
def uptoBulkEntries {H : Type} : List (Lit × DataW H) → Nat
  | [] => 0
  | x :: r => uptoBulkEntry x + uptoBulkEntries r
def uptoBulkEntry {H : Type} : Lit × DataW H → Nat
  | (.string bytes, d) => bytes.length + uptoBulk d + 1
  | (_, d) => uptoBulk d + 1
 end
def uptoSmall : (H : Type) → List (DataW H) → Bool := fun _ ds => decide (uptoBulkAll ds ≤ 1048576)
def OpenSpec.upto (s : _root_.Go.ChangeSpec) : _root_.Go.OpenSpec := { _root_.Go.OpenSpec.ofChange s with cond := some uptoSmall }

/-- 'sawmilllaw44.RuletextExprs', WHERE WHAT IT READS IS OF BULK AT MOST 1048576: true; the input reads as it did. -/
def ruletextExprsUptoRow : OpenClaim := { program := "ytkalkglllgebkaadoor", sum := "b647408746ff93068b5991de9672d30168f7e1bba6edf0b1f2738aa3ad4e4e6b", func := "sawmill/sawmilllaw44.RuletextExprs", spec := "ruletextExprs", inPlace := ["internal/abi.NoEscape"], unfollowed := true, recurses := true, named := ["sawmill/ruletext.operators", "internal/strconv.uint64pow10", "math/bits.deBruijn32tab", "math/bits.deBruijn64tab"], loops := true, apart := false, laid := [("math/bits.deBruijn32tab", laid_math_bits_deBruijn32tab), ("math/bits.deBruijn64tab", laid_math_bits_deBruijn64tab), ("internal/strconv.uint64pow10", laid_internal_strconv_uint64pow10), ("sawmill/ruletext.operators", laid_sawmill_ruletext_operators)], narrowed := true }
def RuletextExprsUptoSaid : Prop := ruletextExprsUptoRow.holds Tryd.pinned (OpenSpec.upto ruletextExprsSpec)

/-- 'sawmilllaw44.RuletextReads', WHERE WHAT IT READS IS OF BULK AT MOST 1048576: true; the input reads as it did. -/
def ruletextReadsUptoRow : OpenClaim := { program := "ytkalkglllgebkaadoor", sum := "b647408746ff93068b5991de9672d30168f7e1bba6edf0b1f2738aa3ad4e4e6b", func := "sawmill/sawmilllaw44.RuletextReads", spec := "ruletextReads", inPlace := ["internal/abi.NoEscape"], unfollowed := true, recurses := true, named := ["sawmill/ruletext.operators", "internal/strconv.uint64pow10", "math/bits.deBruijn32tab", "math/bits.deBruijn64tab"], apart := false, laid := [("math/bits.deBruijn32tab", laid_math_bits_deBruijn32tab), ("math/bits.deBruijn64tab", laid_math_bits_deBruijn64tab), ("internal/strconv.uint64pow10", laid_internal_strconv_uint64pow10), ("sawmill/ruletext.operators", laid_sawmill_ruletext_operators)], narrowed := true }
def RuletextReadsUptoSaid : Prop := ruletextReadsUptoRow.holds Tryd.pinned (OpenSpec.upto ruletextReadsSpec)

/-- 'sawmilllaw44.RuletextTables', WHERE WHAT IT READS IS OF BULK AT MOST 1048576: true; the input reads as it did. -/
def ruletextTablesUptoRow : OpenClaim := { program := "ytkalkglllgebkaadoor", sum := "b647408746ff93068b5991de9672d30168f7e1bba6edf0b1f2738aa3ad4e4e6b", func := "sawmill/sawmilllaw44.RuletextTables", spec := "ruletextTables", inPlace := ["internal/abi.NoEscape"], unfollowed := true, recurses := true, named := ["sawmill/ruletext.operators", "internal/strconv.uint64pow10", "math/bits.deBruijn32tab", "math/bits.deBruijn64tab"], loops := true, apart := false, laid := [("math/bits.deBruijn32tab", laid_math_bits_deBruijn32tab), ("math/bits.deBruijn64tab", laid_math_bits_deBruijn64tab), ("internal/strconv.uint64pow10", laid_internal_strconv_uint64pow10), ("sawmill/ruletext.operators", laid_sawmill_ruletext_operators)], narrowed := true }
def RuletextTablesUptoSaid : Prop := ruletextTablesUptoRow.holds Tryd.pinned (OpenSpec.upto ruletextTablesSpec)

/-- 'sawmilllaw44.RuletextParses', WHERE WHAT IT READS IS OF BULK AT MOST 1048576: true; the input reads as it did. -/
def ruletextParsesUptoRow : OpenClaim := { program := "ytkalkglllgebkaadoor", sum := "b647408746ff93068b5991de9672d30168f7e1bba6edf0b1f2738aa3ad4e4e6b", func := "sawmill/sawmilllaw44.RuletextParses", spec := "ruletextParses", inPlace := ["internal/abi.NoEscape"], unfollowed := true, recurses := true, named := ["sawmill/ruletext.operators", "internal/strconv.uint64pow10", "math/bits.deBruijn32tab", "math/bits.deBruijn64tab"], apart := false, laid := [("math/bits.deBruijn32tab", laid_math_bits_deBruijn32tab), ("math/bits.deBruijn64tab", laid_math_bits_deBruijn64tab), ("internal/strconv.uint64pow10", laid_internal_strconv_uint64pow10), ("sawmill/ruletext.operators", laid_sawmill_ruletext_operators)], narrowed := true }
def RuletextParsesUptoSaid : Prop := ruletextParsesUptoRow.holds Tryd.pinned (OpenSpec.upto ruletextParsesSpec)

/-- 'sawmilllaw44.RuletextSames', WHERE WHAT IT READS IS OF BULK AT MOST 1048576: true; the input reads as it did. -/
def ruletextSamesUptoRow : OpenClaim := { program := "ytkalkglllgebkaadoor", sum := "b647408746ff93068b5991de9672d30168f7e1bba6edf0b1f2738aa3ad4e4e6b", func := "sawmill/sawmilllaw44.RuletextSames", spec := "ruletextSames", inPlace := ["internal/abi.NoEscape"], unfollowed := true, recurses := true, named := ["sawmill/ruletext.operators", "internal/strconv.uint64pow10", "math/bits.deBruijn32tab", "math/bits.deBruijn64tab"], loops := true, apart := false, laid := [("math/bits.deBruijn32tab", laid_math_bits_deBruijn32tab), ("math/bits.deBruijn64tab", laid_math_bits_deBruijn64tab), ("internal/strconv.uint64pow10", laid_internal_strconv_uint64pow10), ("sawmill/ruletext.operators", laid_sawmill_ruletext_operators)], narrowed := true }
def RuletextSamesUptoSaid : Prop := ruletextSamesUptoRow.holds Tryd.pinned (OpenSpec.upto ruletextSamesSpec)

/-- 'sawmilllaw44.RuletextEquals', WHERE WHAT IT READS IS OF BULK AT MOST 1048576: true; the input reads as it did. -/
def ruletextEqualsUptoRow : OpenClaim := { program := "ytkalkglllgebkaadoor", sum := "b647408746ff93068b5991de9672d30168f7e1bba6edf0b1f2738aa3ad4e4e6b", func := "sawmill/sawmilllaw44.RuletextEquals", spec := "ruletextEquals", inPlace := ["internal/abi.NoEscape"], unfollowed := true, recurses := true, named := ["sawmill/ruletext.operators", "internal/strconv.uint64pow10", "math/bits.deBruijn32tab", "math/bits.deBruijn64tab"], apart := false, laid := [("math/bits.deBruijn32tab", laid_math_bits_deBruijn32tab), ("math/bits.deBruijn64tab", laid_math_bits_deBruijn64tab), ("internal/strconv.uint64pow10", laid_internal_strconv_uint64pow10), ("sawmill/ruletext.operators", laid_sawmill_ruletext_operators)], narrowed := true }
def RuletextEqualsUptoSaid : Prop := ruletextEqualsUptoRow.holds Tryd.pinned (OpenSpec.upto ruletextEqualsSpec)

/-- 'sawmilllaw44.RuletextShort', WHERE WHAT IT READS IS OF BULK AT MOST 1048576: true; the input reads as it did. -/
def ruletextShortUptoRow : OpenClaim := { program := "ytkalkglllgebkaadoor", sum := "b647408746ff93068b5991de9672d30168f7e1bba6edf0b1f2738aa3ad4e4e6b", func := "sawmill/sawmilllaw44.RuletextShort", spec := "ruletextShort", inPlace := ["internal/abi.NoEscape"], unfollowed := true, recurses := true, named := ["sawmill/ruletext.operators", "internal/strconv.uint64pow10", "math/bits.deBruijn32tab", "math/bits.deBruijn64tab"], apart := false, laid := [("math/bits.deBruijn32tab", laid_math_bits_deBruijn32tab), ("math/bits.deBruijn64tab", laid_math_bits_deBruijn64tab), ("internal/strconv.uint64pow10", laid_internal_strconv_uint64pow10), ("sawmill/ruletext.operators", laid_sawmill_ruletext_operators)], narrowed := true }
def RuletextShortUptoSaid : Prop := ruletextShortUptoRow.holds Tryd.pinned (OpenSpec.upto ruletextShortSpec)

/-- 'sawmilllaw44.RuletextBack', WHERE WHAT IT READS IS OF BULK AT MOST 1048576: true; the input reads as it did. -/
def ruletextBackUptoRow : OpenClaim := { program := "ytkalkglllgebkaadoor", sum := "b647408746ff93068b5991de9672d30168f7e1bba6edf0b1f2738aa3ad4e4e6b", func := "sawmill/sawmilllaw44.RuletextBack", spec := "ruletextBack", inPlace := ["internal/abi.NoEscape"], unfollowed := true, recurses := true, named := ["sawmill/ruletext.operators", "internal/strconv.uint64pow10", "math/bits.deBruijn32tab", "math/bits.deBruijn64tab"], loops := true, apart := false, laid := [("math/bits.deBruijn32tab", laid_math_bits_deBruijn32tab), ("math/bits.deBruijn64tab", laid_math_bits_deBruijn64tab), ("internal/strconv.uint64pow10", laid_internal_strconv_uint64pow10), ("sawmill/ruletext.operators", laid_sawmill_ruletext_operators)], narrowed := true }
def RuletextBackUptoSaid : Prop := ruletextBackUptoRow.holds Tryd.pinned (OpenSpec.upto ruletextBackSpec)

end Rows
end Go.Proofs.YtkalkglllgebkaaDoor
