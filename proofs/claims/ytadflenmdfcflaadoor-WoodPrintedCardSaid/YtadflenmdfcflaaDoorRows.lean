/-
  NARROWER THAN 'FOR EVERY INPUT', by the rows' own cells (each row's printed sentence says how): WoodChecks: laid · WoodShrinks: laid · WoodFormats: laid · WoodParses: laid · WoodBack: laid · WoodDries: laid · WoodFinds: laid · WoodPrinted: laid.
  DERIVED. THE GIVEN ROWS OF THIS SEAT. 8 by the template 'for every input the law returns true; each argument reads behind the call as it read before'; 0 by the template 'total and deterministic' (their statements: YtadflenmdfcflaaDoorTotals.lean).
  GIVEN WITH THE SEED: the statements are not yours to turn. If you find one false, say at which input.
  Laid BY PROGRAM, IN A SANDBOX (cutbox-rows.mjs): the forced cells as the released guide's own fill.sh prints them over the translation 13397cf64961e88e… (all of the seat's roots in one cut). By AI agents, Wed Nov 11 2026. No macro, syntax, notation, axiom, sorry.
-/
import Derived.Test.YtadflenmdfcflaaDoorChecked
import GoSem.Claim
import GoSem.ClaimJoined
import GoSem.ClaimMapViews
import Derived.JoinedTies
import Derived.KernelRfl
namespace Go.Proofs.YtadflenmdfcflaaDoor
/- THE CELL 'sum', in the pinned program and in every row, IS THE sha256 OF THE DUMP (.gsa) THAT YtadflenmdfcflaaDoorProg.lean LOADS. Nothing in Lean hashes anything: it is a label: what it is worth is what the hold of that sum in a sandbox is worth. -/
noncomputable def Tryd.pinned : Pinned := { name := "ytadflenmdfcflaadoor", sum := "13397cf64961e88eb30ae6f5afa027089c5eebacdfa029bca30ba75b46d67448", checked := Tryd.checked }
namespace Rows
def none {H : Type} : Left H := { results := [], args := [] }

/- WHAT THE LISTED PACKAGE-LEVEL VARIABLES READ AS WHEN THE CALL BEGINS. Each datum BY PROGRAM (the guide's laid-datum.mjs) off the statement by which the dump's own 'gosem.cut.vars' lays the variable. In a bare row this is a premise. The card (YtadflenmdfcflaaDoorCards.lean) ties it to the program's text. -/
def laid_math_bits_deBruijn32tab {H : Type} : DataW H := .agg [.lit (.int .u8 0), .lit (.int .u8 1), .lit (.int .u8 28), .lit (.int .u8 2), .lit (.int .u8 29), .lit (.int .u8 14), .lit (.int .u8 24), .lit (.int .u8 3), .lit (.int .u8 30), .lit (.int .u8 22), .lit (.int .u8 20), .lit (.int .u8 15), .lit (.int .u8 25), .lit (.int .u8 17), .lit (.int .u8 4), .lit (.int .u8 8), .lit (.int .u8 31), .lit (.int .u8 27), .lit (.int .u8 13), .lit (.int .u8 23), .lit (.int .u8 21), .lit (.int .u8 19), .lit (.int .u8 16), .lit (.int .u8 7), .lit (.int .u8 26), .lit (.int .u8 12), .lit (.int .u8 18), .lit (.int .u8 6), .lit (.int .u8 11), .lit (.int .u8 5), .lit (.int .u8 10), .lit (.int .u8 9)]
def laid_math_bits_deBruijn64tab {H : Type} : DataW H := .agg [.lit (.int .u8 0), .lit (.int .u8 1), .lit (.int .u8 56), .lit (.int .u8 2), .lit (.int .u8 57), .lit (.int .u8 49), .lit (.int .u8 28), .lit (.int .u8 3), .lit (.int .u8 61), .lit (.int .u8 58), .lit (.int .u8 42), .lit (.int .u8 50), .lit (.int .u8 38), .lit (.int .u8 29), .lit (.int .u8 17), .lit (.int .u8 4), .lit (.int .u8 62), .lit (.int .u8 47), .lit (.int .u8 59), .lit (.int .u8 36), .lit (.int .u8 45), .lit (.int .u8 43), .lit (.int .u8 51), .lit (.int .u8 22), .lit (.int .u8 53), .lit (.int .u8 39), .lit (.int .u8 33), .lit (.int .u8 30), .lit (.int .u8 24), .lit (.int .u8 18), .lit (.int .u8 12), .lit (.int .u8 5), .lit (.int .u8 63), .lit (.int .u8 55), .lit (.int .u8 48), .lit (.int .u8 27), .lit (.int .u8 60), .lit (.int .u8 41), .lit (.int .u8 37), .lit (.int .u8 16), .lit (.int .u8 46), .lit (.int .u8 35), .lit (.int .u8 44), .lit (.int .u8 21), .lit (.int .u8 52), .lit (.int .u8 32), .lit (.int .u8 23), .lit (.int .u8 11), .lit (.int .u8 54), .lit (.int .u8 26), .lit (.int .u8 40), .lit (.int .u8 15), .lit (.int .u8 34), .lit (.int .u8 20), .lit (.int .u8 31), .lit (.int .u8 10), .lit (.int .u8 25), .lit (.int .u8 14), .lit (.int .u8 19), .lit (.int .u8 9), .lit (.int .u8 13), .lit (.int .u8 8), .lit (.int .u8 7), .lit (.int .u8 6)]
def laid_internal_strconv_uint64pow10 {H : Type} : DataW H := .agg [.lit (.int .u64 1), .lit (.int .u64 10), .lit (.int .u64 100), .lit (.int .u64 1000), .lit (.int .u64 10000), .lit (.int .u64 100000), .lit (.int .u64 1000000), .lit (.int .u64 10000000), .lit (.int .u64 100000000), .lit (.int .u64 1000000000), .lit (.int .u64 10000000000), .lit (.int .u64 100000000000), .lit (.int .u64 1000000000000), .lit (.int .u64 10000000000000), .lit (.int .u64 100000000000000), .lit (.int .u64 1000000000000000), .lit (.int .u64 10000000000000000), .lit (.int .u64 100000000000000000), .lit (.int .u64 1000000000000000000), .lit (.int .u64 10000000000000000000)]
def laid_sawmill_wood_words {H : Type} : DataW H := .agg [.lit (.string [103, 114, 101, 101, 110]), .lit (.string [102, 97, 115, 116]), .lit (.string [115, 108, 111, 119]), .lit (.string [115, 97, 102, 101]), .lit (.string [103, 114, 97, 100, 105, 101, 110, 116]), .lit (.string [99, 114, 97, 99, 107]), .lit (.string [116, 101, 109, 112]), .lit (.string [100, 101, 112, 114, 101, 115, 115]), .lit (.string [100, 101, 110, 115, 105, 116, 121]), .lit (.string [115, 116, 105, 102, 102]), .lit (.string [107, 110, 111, 116, 115]), .lit (.string [115, 104, 114, 105, 110, 107])]

/-- 'sawmilllaw34.WoodChecks': WHATEVER THE INPUT: true; the input reads as it did. -/
def woodChecksSpec : ChangeSpec := { name := "woodChecks", fn := fun _ => fun
  | [d1, d2] => { results := [.lit (.bool true)], args := [d1, d2] }
  | _ => none }
def woodChecksRow : OpenClaim := { program := "ytadflenmdfcflaadoor", sum := "13397cf64961e88eb30ae6f5afa027089c5eebacdfa029bca30ba75b46d67448", func := "sawmill/sawmilllaw34.WoodChecks", spec := "woodChecks", inPlace := ["internal/abi.NoEscape"], unfollowed := true, recurses := true, named := ["sawmill/wood.words", "internal/strconv.uint64pow10", "math/bits.deBruijn32tab", "math/bits.deBruijn64tab"], apart := false, laid := [("math/bits.deBruijn32tab", laid_math_bits_deBruijn32tab), ("math/bits.deBruijn64tab", laid_math_bits_deBruijn64tab), ("internal/strconv.uint64pow10", laid_internal_strconv_uint64pow10), ("sawmill/wood.words", laid_sawmill_wood_words)] }
def WoodChecksSaid : Prop := woodChecksRow.holds Tryd.pinned (OpenSpec.ofChange woodChecksSpec)

/-- ITS FALSE NEIGHBOUR: 'it returns false'. Refute it at one input. -/
def woodChecksWrong : ChangeSpec := { name := "woodChecks", fn := fun _ => fun
  | [d1, d2] => { results := [.lit (.bool false)], args := [d1, d2] }
  | _ => none }
def WoodChecksWrongFalsely : Prop := woodChecksRow.holds Tryd.pinned (OpenSpec.ofChange woodChecksWrong)

/-- 'sawmilllaw34.WoodShrinks': WHATEVER THE INPUT: true; the input reads as it did. -/
def woodShrinksSpec : ChangeSpec := { name := "woodShrinks", fn := fun _ => fun
  | [d1, d2, d3] => { results := [.lit (.bool true)], args := [d1, d2, d3] }
  | _ => none }
def woodShrinksRow : OpenClaim := { program := "ytadflenmdfcflaadoor", sum := "13397cf64961e88eb30ae6f5afa027089c5eebacdfa029bca30ba75b46d67448", func := "sawmill/sawmilllaw34.WoodShrinks", spec := "woodShrinks", inPlace := ["internal/abi.NoEscape"], unfollowed := true, recurses := true, named := ["sawmill/wood.words", "internal/strconv.uint64pow10", "math/bits.deBruijn32tab", "math/bits.deBruijn64tab"], apart := false, laid := [("math/bits.deBruijn32tab", laid_math_bits_deBruijn32tab), ("math/bits.deBruijn64tab", laid_math_bits_deBruijn64tab), ("internal/strconv.uint64pow10", laid_internal_strconv_uint64pow10), ("sawmill/wood.words", laid_sawmill_wood_words)] }
def WoodShrinksSaid : Prop := woodShrinksRow.holds Tryd.pinned (OpenSpec.ofChange woodShrinksSpec)

/-- ITS FALSE NEIGHBOUR: 'it returns false'. Refute it at one input. -/
def woodShrinksWrong : ChangeSpec := { name := "woodShrinks", fn := fun _ => fun
  | [d1, d2, d3] => { results := [.lit (.bool false)], args := [d1, d2, d3] }
  | _ => none }
def WoodShrinksWrongFalsely : Prop := woodShrinksRow.holds Tryd.pinned (OpenSpec.ofChange woodShrinksWrong)

/-- 'sawmilllaw34.WoodFormats': WHATEVER THE INPUT: true; the input reads as it did. -/
def woodFormatsSpec : ChangeSpec := { name := "woodFormats", fn := fun _ => fun
  | [d] => { results := [.lit (.bool true)], args := [d] }
  | _ => none }
def woodFormatsRow : OpenClaim := { program := "ytadflenmdfcflaadoor", sum := "13397cf64961e88eb30ae6f5afa027089c5eebacdfa029bca30ba75b46d67448", func := "sawmill/sawmilllaw34.WoodFormats", spec := "woodFormats", inPlace := ["internal/abi.NoEscape"], unfollowed := true, recurses := true, named := ["sawmill/wood.words", "internal/strconv.uint64pow10", "math/bits.deBruijn32tab", "math/bits.deBruijn64tab"], apart := false, laid := [("math/bits.deBruijn32tab", laid_math_bits_deBruijn32tab), ("math/bits.deBruijn64tab", laid_math_bits_deBruijn64tab), ("internal/strconv.uint64pow10", laid_internal_strconv_uint64pow10), ("sawmill/wood.words", laid_sawmill_wood_words)] }
def WoodFormatsSaid : Prop := woodFormatsRow.holds Tryd.pinned (OpenSpec.ofChange woodFormatsSpec)

/-- ITS FALSE NEIGHBOUR: 'it returns false'. Refute it at one input. -/
def woodFormatsWrong : ChangeSpec := { name := "woodFormats", fn := fun _ => fun
  | [d] => { results := [.lit (.bool false)], args := [d] }
  | _ => none }
def WoodFormatsWrongFalsely : Prop := woodFormatsRow.holds Tryd.pinned (OpenSpec.ofChange woodFormatsWrong)

/-- 'sawmilllaw34.WoodParses': WHATEVER THE INPUT: true; the input reads as it did. -/
def woodParsesSpec : ChangeSpec := { name := "woodParses", fn := fun _ => fun
  | [d] => { results := [.lit (.bool true)], args := [d] }
  | _ => none }
def woodParsesRow : OpenClaim := { program := "ytadflenmdfcflaadoor", sum := "13397cf64961e88eb30ae6f5afa027089c5eebacdfa029bca30ba75b46d67448", func := "sawmill/sawmilllaw34.WoodParses", spec := "woodParses", inPlace := ["internal/abi.NoEscape"], unfollowed := true, recurses := true, named := ["sawmill/wood.words", "internal/strconv.uint64pow10", "math/bits.deBruijn32tab", "math/bits.deBruijn64tab"], apart := false, laid := [("math/bits.deBruijn32tab", laid_math_bits_deBruijn32tab), ("math/bits.deBruijn64tab", laid_math_bits_deBruijn64tab), ("internal/strconv.uint64pow10", laid_internal_strconv_uint64pow10), ("sawmill/wood.words", laid_sawmill_wood_words)] }
def WoodParsesSaid : Prop := woodParsesRow.holds Tryd.pinned (OpenSpec.ofChange woodParsesSpec)

/-- ITS FALSE NEIGHBOUR: 'it returns false'. Refute it at one input. -/
def woodParsesWrong : ChangeSpec := { name := "woodParses", fn := fun _ => fun
  | [d] => { results := [.lit (.bool false)], args := [d] }
  | _ => none }
def WoodParsesWrongFalsely : Prop := woodParsesRow.holds Tryd.pinned (OpenSpec.ofChange woodParsesWrong)

/-- 'sawmilllaw34.WoodBack': WHATEVER THE INPUT: true; the input reads as it did. -/
def woodBackSpec : ChangeSpec := { name := "woodBack", fn := fun _ => fun
  | [d] => { results := [.lit (.bool true)], args := [d] }
  | _ => none }
def woodBackRow : OpenClaim := { program := "ytadflenmdfcflaadoor", sum := "13397cf64961e88eb30ae6f5afa027089c5eebacdfa029bca30ba75b46d67448", func := "sawmill/sawmilllaw34.WoodBack", spec := "woodBack", inPlace := ["internal/abi.NoEscape"], unfollowed := true, recurses := true, named := ["sawmill/wood.words", "internal/strconv.uint64pow10", "math/bits.deBruijn32tab", "math/bits.deBruijn64tab"], apart := false, laid := [("math/bits.deBruijn32tab", laid_math_bits_deBruijn32tab), ("math/bits.deBruijn64tab", laid_math_bits_deBruijn64tab), ("internal/strconv.uint64pow10", laid_internal_strconv_uint64pow10), ("sawmill/wood.words", laid_sawmill_wood_words)] }
def WoodBackSaid : Prop := woodBackRow.holds Tryd.pinned (OpenSpec.ofChange woodBackSpec)

/-- ITS FALSE NEIGHBOUR: 'it returns false'. Refute it at one input. -/
def woodBackWrong : ChangeSpec := { name := "woodBack", fn := fun _ => fun
  | [d] => { results := [.lit (.bool false)], args := [d] }
  | _ => none }
def WoodBackWrongFalsely : Prop := woodBackRow.holds Tryd.pinned (OpenSpec.ofChange woodBackWrong)

/-- 'sawmilllaw34.WoodDries': WHATEVER THE INPUT: true; the input reads as it did. -/
def woodDriesSpec : ChangeSpec := { name := "woodDries", fn := fun _ => fun
  | [d1, d2, d3] => { results := [.lit (.bool true)], args := [d1, d2, d3] }
  | _ => none }
def woodDriesRow : OpenClaim := { program := "ytadflenmdfcflaadoor", sum := "13397cf64961e88eb30ae6f5afa027089c5eebacdfa029bca30ba75b46d67448", func := "sawmill/sawmilllaw34.WoodDries", spec := "woodDries", inPlace := ["internal/abi.NoEscape"], unfollowed := true, recurses := true, named := ["sawmill/wood.words", "internal/strconv.uint64pow10", "math/bits.deBruijn32tab", "math/bits.deBruijn64tab"], apart := false, laid := [("math/bits.deBruijn32tab", laid_math_bits_deBruijn32tab), ("math/bits.deBruijn64tab", laid_math_bits_deBruijn64tab), ("internal/strconv.uint64pow10", laid_internal_strconv_uint64pow10), ("sawmill/wood.words", laid_sawmill_wood_words)] }
def WoodDriesSaid : Prop := woodDriesRow.holds Tryd.pinned (OpenSpec.ofChange woodDriesSpec)

/-- ITS FALSE NEIGHBOUR: 'it returns false'. Refute it at one input. -/
def woodDriesWrong : ChangeSpec := { name := "woodDries", fn := fun _ => fun
  | [d1, d2, d3] => { results := [.lit (.bool false)], args := [d1, d2, d3] }
  | _ => none }
def WoodDriesWrongFalsely : Prop := woodDriesRow.holds Tryd.pinned (OpenSpec.ofChange woodDriesWrong)

/-- 'sawmilllaw34.WoodFinds': WHATEVER THE INPUT: true; the input reads as it did. -/
def woodFindsSpec : ChangeSpec := { name := "woodFinds", fn := fun _ => fun
  | [d1, d2] => { results := [.lit (.bool true)], args := [d1, d2] }
  | _ => none }
def woodFindsRow : OpenClaim := { program := "ytadflenmdfcflaadoor", sum := "13397cf64961e88eb30ae6f5afa027089c5eebacdfa029bca30ba75b46d67448", func := "sawmill/sawmilllaw34.WoodFinds", spec := "woodFinds", inPlace := ["internal/abi.NoEscape"], unfollowed := true, recurses := true, named := ["sawmill/wood.words", "internal/strconv.uint64pow10", "math/bits.deBruijn32tab", "math/bits.deBruijn64tab"], apart := false, laid := [("math/bits.deBruijn32tab", laid_math_bits_deBruijn32tab), ("math/bits.deBruijn64tab", laid_math_bits_deBruijn64tab), ("internal/strconv.uint64pow10", laid_internal_strconv_uint64pow10), ("sawmill/wood.words", laid_sawmill_wood_words)] }
def WoodFindsSaid : Prop := woodFindsRow.holds Tryd.pinned (OpenSpec.ofChange woodFindsSpec)

/-- ITS FALSE NEIGHBOUR: 'it returns false'. Refute it at one input. -/
def woodFindsWrong : ChangeSpec := { name := "woodFinds", fn := fun _ => fun
  | [d1, d2] => { results := [.lit (.bool false)], args := [d1, d2] }
  | _ => none }
def WoodFindsWrongFalsely : Prop := woodFindsRow.holds Tryd.pinned (OpenSpec.ofChange woodFindsWrong)

/-- 'sawmilllaw34.WoodPrinted': WHATEVER THE INPUT: true; the input reads as it did. -/
def woodPrintedSpec : ChangeSpec := { name := "woodPrinted", fn := fun _ => fun
  | [d] => { results := [.lit (.bool true)], args := [d] }
  | _ => none }
def woodPrintedRow : OpenClaim := { program := "ytadflenmdfcflaadoor", sum := "13397cf64961e88eb30ae6f5afa027089c5eebacdfa029bca30ba75b46d67448", func := "sawmill/sawmilllaw34.WoodPrinted", spec := "woodPrinted", inPlace := ["internal/abi.NoEscape"], unfollowed := true, recurses := true, named := ["sawmill/wood.words", "internal/strconv.uint64pow10", "math/bits.deBruijn32tab", "math/bits.deBruijn64tab"], apart := false, laid := [("math/bits.deBruijn32tab", laid_math_bits_deBruijn32tab), ("math/bits.deBruijn64tab", laid_math_bits_deBruijn64tab), ("internal/strconv.uint64pow10", laid_internal_strconv_uint64pow10), ("sawmill/wood.words", laid_sawmill_wood_words)] }
def WoodPrintedSaid : Prop := woodPrintedRow.holds Tryd.pinned (OpenSpec.ofChange woodPrintedSpec)

/-- ITS FALSE NEIGHBOUR: 'it returns false'. Refute it at one input. -/
def woodPrintedWrong : ChangeSpec := { name := "woodPrinted", fn := fun _ => fun
  | [d] => { results := [.lit (.bool false)], args := [d] }
  | _ => none }
def WoodPrintedWrongFalsely : Prop := woodPrintedRow.holds Tryd.pinned (OpenSpec.ofChange woodPrintedWrong)

/- THE SECOND FORM. 'bulk': how many values and letters a reading holds, each counted each time it is reached (what is shared counts as often as it is met; a slice's spare places count too). A statement '..UptoSaid' is the law's where the arguments, and the package variables that the reading takes, are together of bulk at most 1048576: NARROWER than '..Said'. Prove '..Said' where nothing that the law and all that it calls make is longer than what came in: it says more and counts as full. Else prove '..UptoSaid'. A law counts once. -/
mutual
def uptoBulk {H : Type} : DataW H → Nat
  | .lit (.string bytes) => bytes.length + 1
  | .lit _ => 1
  | .nil => 1
  | .ptr d => uptoBulk d + 1
  | .slice elems spare => uptoBulkAll elems + uptoBulkAll spare + 1
  | .agg parts => uptoBulkAll parts + 1
  | .iface _ d => uptoBulk d + 1
  | .map entries => uptoBulkEntries entries + 1
  | .held _ => 1
def uptoBulkAll {H : Type} : List (DataW H) → Nat
  | [] => 0
  | d :: r => uptoBulk d + uptoBulkAll r
def uptoBulkEntries {H : Type} : List (Lit × DataW H) → Nat
  | [] => 0
  | x :: r => uptoBulkEntry x + uptoBulkEntries r
def uptoBulkEntry {H : Type} : Lit × DataW H → Nat
  | (.string bytes, d) => bytes.length + uptoBulk d + 1
  | (_, d) => uptoBulk d + 1
 end
def uptoSmall : (H : Type) → List (DataW H) → Bool := fun _ ds => decide (uptoBulkAll ds ≤ 1048576)
def OpenSpec.upto (s : _root_.Go.ChangeSpec) : _root_.Go.OpenSpec := { _root_.Go.OpenSpec.ofChange s with cond := some uptoSmall }

/-- 'sawmilllaw34.WoodChecks', WHERE WHAT IT READS IS OF BULK AT MOST 1048576: true; the input reads as it did. -/
def woodChecksUptoRow : OpenClaim := { program := "ytadflenmdfcflaadoor", sum := "13397cf64961e88eb30ae6f5afa027089c5eebacdfa029bca30ba75b46d67448", func := "sawmill/sawmilllaw34.WoodChecks", spec := "woodChecks", inPlace := ["internal/abi.NoEscape"], unfollowed := true, recurses := true, named := ["sawmill/wood.words", "internal/strconv.uint64pow10", "math/bits.deBruijn32tab", "math/bits.deBruijn64tab"], apart := false, laid := [("math/bits.deBruijn32tab", laid_math_bits_deBruijn32tab), ("math/bits.deBruijn64tab", laid_math_bits_deBruijn64tab), ("internal/strconv.uint64pow10", laid_internal_strconv_uint64pow10), ("sawmill/wood.words", laid_sawmill_wood_words)], narrowed := true }
def WoodChecksUptoSaid : Prop := woodChecksUptoRow.holds Tryd.pinned (OpenSpec.upto woodChecksSpec)

/-- 'sawmilllaw34.WoodShrinks', WHERE WHAT IT READS IS OF BULK AT MOST 1048576: true; the input reads as it did. -/
def woodShrinksUptoRow : OpenClaim := { program := "ytadflenmdfcflaadoor", sum := "13397cf64961e88eb30ae6f5afa027089c5eebacdfa029bca30ba75b46d67448", func := "sawmill/sawmilllaw34.WoodShrinks", spec := "woodShrinks", inPlace := ["internal/abi.NoEscape"], unfollowed := true, recurses := true, named := ["sawmill/wood.words", "internal/strconv.uint64pow10", "math/bits.deBruijn32tab", "math/bits.deBruijn64tab"], apart := false, laid := [("math/bits.deBruijn32tab", laid_math_bits_deBruijn32tab), ("math/bits.deBruijn64tab", laid_math_bits_deBruijn64tab), ("internal/strconv.uint64pow10", laid_internal_strconv_uint64pow10), ("sawmill/wood.words", laid_sawmill_wood_words)], narrowed := true }
def WoodShrinksUptoSaid : Prop := woodShrinksUptoRow.holds Tryd.pinned (OpenSpec.upto woodShrinksSpec)

/-- 'sawmilllaw34.WoodFormats', WHERE WHAT IT READS IS OF BULK AT MOST 1048576: true; the input reads as it did. -/
def woodFormatsUptoRow : OpenClaim := { program := "ytadflenmdfcflaadoor", sum := "13397cf64961e88eb30ae6f5afa027089c5eebacdfa029bca30ba75b46d67448", func := "sawmill/sawmilllaw34.WoodFormats", spec := "woodFormats", inPlace := ["internal/abi.NoEscape"], unfollowed := true, recurses := true, named := ["sawmill/wood.words", "internal/strconv.uint64pow10", "math/bits.deBruijn32tab", "math/bits.deBruijn64tab"], apart := false, laid := [("math/bits.deBruijn32tab", laid_math_bits_deBruijn32tab), ("math/bits.deBruijn64tab", laid_math_bits_deBruijn64tab), ("internal/strconv.uint64pow10", laid_internal_strconv_uint64pow10), ("sawmill/wood.words", laid_sawmill_wood_words)], narrowed := true }
def WoodFormatsUptoSaid : Prop := woodFormatsUptoRow.holds Tryd.pinned (OpenSpec.upto woodFormatsSpec)

/-- 'sawmilllaw34.WoodParses', WHERE WHAT IT READS IS OF BULK AT MOST 1048576: true; the input reads as it did. -/
def woodParsesUptoRow : OpenClaim := { program := "ytadflenmdfcflaadoor", sum := "13397cf64961e88eb30ae6f5afa027089c5eebacdfa029bca30ba75b46d67448", func := "sawmill/sawmilllaw34.WoodParses", spec := "woodParses", inPlace := ["internal/abi.NoEscape"], unfollowed := true, recurses := true, named := ["sawmill/wood.words", "internal/strconv.uint64pow10", "math/bits.deBruijn32tab", "math/bits.deBruijn64tab"], apart := false, laid := [("math/bits.deBruijn32tab", laid_math_bits_deBruijn32tab), ("math/bits.deBruijn64tab", laid_math_bits_deBruijn64tab), ("internal/strconv.uint64pow10", laid_internal_strconv_uint64pow10), ("sawmill/wood.words", laid_sawmill_wood_words)], narrowed := true }
def WoodParsesUptoSaid : Prop := woodParsesUptoRow.holds Tryd.pinned (OpenSpec.upto woodParsesSpec)

/-- 'sawmilllaw34.WoodBack', WHERE WHAT IT READS IS OF BULK AT MOST 1048576: true; the input reads as it did. -/
def woodBackUptoRow : OpenClaim := { program := "ytadflenmdfcflaadoor", sum := "13397cf64961e88eb30ae6f5afa027089c5eebacdfa029bca30ba75b46d67448", func := "sawmill/sawmilllaw34.WoodBack", spec := "woodBack", inPlace := ["internal/abi.NoEscape"], unfollowed := true, recurses := true, named := ["sawmill/wood.words", "internal/strconv.uint64pow10", "math/bits.deBruijn32tab", "math/bits.deBruijn64tab"], apart := false, laid := [("math/bits.deBruijn32tab", laid_math_bits_deBruijn32tab), ("math/bits.deBruijn64tab", laid_math_bits_deBruijn64tab), ("internal/strconv.uint64pow10", laid_internal_strconv_uint64pow10), ("sawmill/wood.words", laid_sawmill_wood_words)], narrowed := true }
def WoodBackUptoSaid : Prop := woodBackUptoRow.holds Tryd.pinned (OpenSpec.upto woodBackSpec)

/-- 'sawmilllaw34.WoodDries', WHERE WHAT IT READS IS OF BULK AT MOST 1048576: true; the input reads as it did. -/
def woodDriesUptoRow : OpenClaim := { program := "ytadflenmdfcflaadoor", sum := "13397cf64961e88eb30ae6f5afa027089c5eebacdfa029bca30ba75b46d67448", func := "sawmill/sawmilllaw34.WoodDries", spec := "woodDries", inPlace := ["internal/abi.NoEscape"], unfollowed := true, recurses := true, named := ["sawmill/wood.words", "internal/strconv.uint64pow10", "math/bits.deBruijn32tab", "math/bits.deBruijn64tab"], apart := false, laid := [("math/bits.deBruijn32tab", laid_math_bits_deBruijn32tab), ("math/bits.deBruijn64tab", laid_math_bits_deBruijn64tab), ("internal/strconv.uint64pow10", laid_internal_strconv_uint64pow10), ("sawmill/wood.words", laid_sawmill_wood_words)], narrowed := true }
def WoodDriesUptoSaid : Prop := woodDriesUptoRow.holds Tryd.pinned (OpenSpec.upto woodDriesSpec)

/-- 'sawmilllaw34.WoodFinds', WHERE WHAT IT READS IS OF BULK AT MOST 1048576: true; the input reads as it did. -/
def woodFindsUptoRow : OpenClaim := { program := "ytadflenmdfcflaadoor", sum := "13397cf64961e88eb30ae6f5afa027089c5eebacdfa029bca30ba75b46d67448", func := "sawmill/sawmilllaw34.WoodFinds", spec := "woodFinds", inPlace := ["internal/abi.NoEscape"], unfollowed := true, recurses := true, named := ["sawmill/wood.words", "internal/strconv.uint64pow10", "math/bits.deBruijn32tab", "math/bits.deBruijn64tab"], apart := false, laid := [("math/bits.deBruijn32tab", laid_math_bits_deBruijn32tab), ("math/bits.deBruijn64tab", laid_math_bits_deBruijn64tab), ("internal/strconv.uint64pow10", laid_internal_strconv_uint64pow10), ("sawmill/wood.words", laid_sawmill_wood_words)], narrowed := true }
def WoodFindsUptoSaid : Prop := woodFindsUptoRow.holds Tryd.pinned (OpenSpec.upto woodFindsSpec)

/-- 'sawmilllaw34.WoodPrinted', WHERE WHAT IT READS IS OF BULK AT MOST 1048576: true; the input reads as it did. -/
def woodPrintedUptoRow : OpenClaim := { program := "ytadflenmdfcflaadoor", sum := "13397cf64961e88eb30ae6f5afa027089c5eebacdfa029bca30ba75b46d67448", func := "sawmill/sawmilllaw34.WoodPrinted", spec := "woodPrinted", inPlace := ["internal/abi.NoEscape"], unfollowed := true, recurses := true, named := ["sawmill/wood.words", "internal/strconv.uint64pow10", "math/bits.deBruijn32tab", "math/bits.deBruijn64tab"], apart := false, laid := [("math/bits.deBruijn32tab", laid_math_bits_deBruijn32tab), ("math/bits.deBruijn64tab", laid_math_bits_deBruijn64tab), ("internal/strconv.uint64pow10", laid_internal_strconv_uint64pow10), ("sawmill/wood.words", laid_sawmill_wood_words)], narrowed := true }
def WoodPrintedUptoSaid : Prop := woodPrintedUptoRow.holds Tryd.pinned (OpenSpec.upto woodPrintedSpec)

end Rows
end Go.Proofs.YtadflenmdfcflaaDoor
