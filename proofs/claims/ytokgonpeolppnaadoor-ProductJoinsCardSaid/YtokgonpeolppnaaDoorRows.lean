/-
  NARROWER THAN 'FOR EVERY INPUT', by the rows' own cells (each row's printed sentence says how): ProductChecks: laid · ProductSizes: laid · ProductTexts: laid · ProductFinds: laid · ProductGreens: laid · ProductBack: laid · ProductJoins: laid · ProductPrices: laid · ProductSpaces: laid.
  DERIVED. THE GIVEN ROWS OF THIS SEAT. 9 by the template 'for every input the law returns true; each argument reads behind the call as it read before'; 0 by the template 'total and deterministic' (their statements: YtokgonpeolppnaaDoorTotals.lean).
  GIVEN WITH THE SEED: the statements are not yours to turn. If you find one false, say at which input.
  Laid BY PROGRAM, IN A SANDBOX (cutbox-rows.mjs): the forced cells as the released guide's own fill.sh prints them over the translation 93d85ab144dc6ccc… (all of the seat's roots in one cut). By AI agents, Wed Nov 11 2026. No macro, syntax, notation, axiom, sorry.
-/
import Derived.Test.YtokgonpeolppnaaDoorChecked
import GoSem.Claim
import GoSem.ClaimJoined
import GoSem.ClaimMapViews
import Derived.JoinedTies
import Derived.KernelRfl
namespace Go.Proofs.YtokgonpeolppnaaDoor
/- THE CELL 'sum', in the pinned program and in every row, IS THE sha256 OF THE DUMP (.gsa) THAT YtokgonpeolppnaaDoorProg.lean LOADS. Nothing in Lean hashes anything: it is a label: what it is worth is what the hold of that sum in a sandbox is worth. -/
noncomputable def Tryd.pinned : Pinned := { name := "ytokgonpeolppnaadoor", sum := "93d85ab144dc6ccc4965e7cebb8faedf71225a3efa3d983e94869789a6978462", checked := Tryd.checked }
namespace Rows
def none {H : Type} : Left H := { results := [], args := [] }

/- WHAT THE LISTED PACKAGE-LEVEL VARIABLES READ AS WHEN THE CALL BEGINS. Each datum BY PROGRAM (the guide's laid-datum.mjs) off the statement by which the dump's own 'gosem.cut.vars' lays the variable. In a bare row this is a premise. The card (YtokgonpeolppnaaDoorCards.lean) ties it to the program's text. -/
def laid_math_bits_deBruijn32tab {H : Type} : DataW H := .agg [.lit (.int .u8 0), .lit (.int .u8 1), .lit (.int .u8 28), .lit (.int .u8 2), .lit (.int .u8 29), .lit (.int .u8 14), .lit (.int .u8 24), .lit (.int .u8 3), .lit (.int .u8 30), .lit (.int .u8 22), .lit (.int .u8 20), .lit (.int .u8 15), .lit (.int .u8 25), .lit (.int .u8 17), .lit (.int .u8 4), .lit (.int .u8 8), .lit (.int .u8 31), .lit (.int .u8 27), .lit (.int .u8 13), .lit (.int .u8 23), .lit (.int .u8 21), .lit (.int .u8 19), .lit (.int .u8 16), .lit (.int .u8 7), .lit (.int .u8 26), .lit (.int .u8 12), .lit (.int .u8 18), .lit (.int .u8 6), .lit (.int .u8 11), .lit (.int .u8 5), .lit (.int .u8 10), .lit (.int .u8 9)]
def laid_math_bits_deBruijn64tab {H : Type} : DataW H := .agg [.lit (.int .u8 0), .lit (.int .u8 1), .lit (.int .u8 56), .lit (.int .u8 2), .lit (.int .u8 57), .lit (.int .u8 49), .lit (.int .u8 28), .lit (.int .u8 3), .lit (.int .u8 61), .lit (.int .u8 58), .lit (.int .u8 42), .lit (.int .u8 50), .lit (.int .u8 38), .lit (.int .u8 29), .lit (.int .u8 17), .lit (.int .u8 4), .lit (.int .u8 62), .lit (.int .u8 47), .lit (.int .u8 59), .lit (.int .u8 36), .lit (.int .u8 45), .lit (.int .u8 43), .lit (.int .u8 51), .lit (.int .u8 22), .lit (.int .u8 53), .lit (.int .u8 39), .lit (.int .u8 33), .lit (.int .u8 30), .lit (.int .u8 24), .lit (.int .u8 18), .lit (.int .u8 12), .lit (.int .u8 5), .lit (.int .u8 63), .lit (.int .u8 55), .lit (.int .u8 48), .lit (.int .u8 27), .lit (.int .u8 60), .lit (.int .u8 41), .lit (.int .u8 37), .lit (.int .u8 16), .lit (.int .u8 46), .lit (.int .u8 35), .lit (.int .u8 44), .lit (.int .u8 21), .lit (.int .u8 52), .lit (.int .u8 32), .lit (.int .u8 23), .lit (.int .u8 11), .lit (.int .u8 54), .lit (.int .u8 26), .lit (.int .u8 40), .lit (.int .u8 15), .lit (.int .u8 34), .lit (.int .u8 20), .lit (.int .u8 31), .lit (.int .u8 10), .lit (.int .u8 25), .lit (.int .u8 14), .lit (.int .u8 19), .lit (.int .u8 9), .lit (.int .u8 13), .lit (.int .u8 8), .lit (.int .u8 7), .lit (.int .u8 6)]
def laid_internal_strconv_uint64pow10 {H : Type} : DataW H := .agg [.lit (.int .u64 1), .lit (.int .u64 10), .lit (.int .u64 100), .lit (.int .u64 1000), .lit (.int .u64 10000), .lit (.int .u64 100000), .lit (.int .u64 1000000), .lit (.int .u64 10000000), .lit (.int .u64 100000000), .lit (.int .u64 1000000000), .lit (.int .u64 10000000000), .lit (.int .u64 100000000000), .lit (.int .u64 1000000000000), .lit (.int .u64 10000000000000), .lit (.int .u64 100000000000000), .lit (.int .u64 1000000000000000), .lit (.int .u64 10000000000000000), .lit (.int .u64 100000000000000000), .lit (.int .u64 1000000000000000000), .lit (.int .u64 10000000000000000000)]

/-- 'sawmilllaw19.ProductChecks': WHATEVER THE INPUT: true; the input reads as it did. -/
def productChecksSpec : ChangeSpec := { name := "productChecks", fn := fun _ => fun
  | [d] => { results := [.lit (.bool true)], args := [d] }
  | _ => none }
def productChecksRow : OpenClaim := { program := "ytokgonpeolppnaadoor", sum := "93d85ab144dc6ccc4965e7cebb8faedf71225a3efa3d983e94869789a6978462", func := "sawmill/sawmilllaw19.ProductChecks", spec := "productChecks", inPlace := ["internal/abi.NoEscape"], unfollowed := true, recurses := true, named := ["internal/strconv.uint64pow10", "math/bits.deBruijn32tab", "math/bits.deBruijn64tab"], apart := false, laid := [("math/bits.deBruijn32tab", laid_math_bits_deBruijn32tab), ("math/bits.deBruijn64tab", laid_math_bits_deBruijn64tab), ("internal/strconv.uint64pow10", laid_internal_strconv_uint64pow10)] }
def ProductChecksSaid : Prop := productChecksRow.holds Tryd.pinned (OpenSpec.ofChange productChecksSpec)

/-- ITS FALSE NEIGHBOUR: 'it returns false'. Refute it at one input. -/
def productChecksWrong : ChangeSpec := { name := "productChecks", fn := fun _ => fun
  | [d] => { results := [.lit (.bool false)], args := [d] }
  | _ => none }
def ProductChecksWrongFalsely : Prop := productChecksRow.holds Tryd.pinned (OpenSpec.ofChange productChecksWrong)

/-- 'sawmilllaw19.ProductSizes': WHATEVER THE INPUT: true; the input reads as it did. -/
def productSizesSpec : ChangeSpec := { name := "productSizes", fn := fun _ => fun
  | [d1, d2] => { results := [.lit (.bool true)], args := [d1, d2] }
  | _ => none }
def productSizesRow : OpenClaim := { program := "ytokgonpeolppnaadoor", sum := "93d85ab144dc6ccc4965e7cebb8faedf71225a3efa3d983e94869789a6978462", func := "sawmill/sawmilllaw19.ProductSizes", spec := "productSizes", inPlace := ["internal/abi.NoEscape"], unfollowed := true, recurses := true, named := ["internal/strconv.uint64pow10", "math/bits.deBruijn32tab", "math/bits.deBruijn64tab"], apart := false, laid := [("math/bits.deBruijn32tab", laid_math_bits_deBruijn32tab), ("math/bits.deBruijn64tab", laid_math_bits_deBruijn64tab), ("internal/strconv.uint64pow10", laid_internal_strconv_uint64pow10)] }
def ProductSizesSaid : Prop := productSizesRow.holds Tryd.pinned (OpenSpec.ofChange productSizesSpec)

/-- ITS FALSE NEIGHBOUR: 'it returns false'. Refute it at one input. -/
def productSizesWrong : ChangeSpec := { name := "productSizes", fn := fun _ => fun
  | [d1, d2] => { results := [.lit (.bool false)], args := [d1, d2] }
  | _ => none }
def ProductSizesWrongFalsely : Prop := productSizesRow.holds Tryd.pinned (OpenSpec.ofChange productSizesWrong)

/-- 'sawmilllaw19.ProductTexts': WHATEVER THE INPUT: true; the input reads as it did. -/
def productTextsSpec : ChangeSpec := { name := "productTexts", fn := fun _ => fun
  | [d1, d2] => { results := [.lit (.bool true)], args := [d1, d2] }
  | _ => none }
def productTextsRow : OpenClaim := { program := "ytokgonpeolppnaadoor", sum := "93d85ab144dc6ccc4965e7cebb8faedf71225a3efa3d983e94869789a6978462", func := "sawmill/sawmilllaw19.ProductTexts", spec := "productTexts", inPlace := ["internal/abi.NoEscape"], unfollowed := true, recurses := true, named := ["internal/strconv.uint64pow10", "math/bits.deBruijn32tab", "math/bits.deBruijn64tab"], apart := false, laid := [("math/bits.deBruijn32tab", laid_math_bits_deBruijn32tab), ("math/bits.deBruijn64tab", laid_math_bits_deBruijn64tab), ("internal/strconv.uint64pow10", laid_internal_strconv_uint64pow10)] }
def ProductTextsSaid : Prop := productTextsRow.holds Tryd.pinned (OpenSpec.ofChange productTextsSpec)

/-- ITS FALSE NEIGHBOUR: 'it returns false'. Refute it at one input. -/
def productTextsWrong : ChangeSpec := { name := "productTexts", fn := fun _ => fun
  | [d1, d2] => { results := [.lit (.bool false)], args := [d1, d2] }
  | _ => none }
def ProductTextsWrongFalsely : Prop := productTextsRow.holds Tryd.pinned (OpenSpec.ofChange productTextsWrong)

/-- 'sawmilllaw19.ProductFinds': WHATEVER THE INPUT: true; the input reads as it did. -/
def productFindsSpec : ChangeSpec := { name := "productFinds", fn := fun _ => fun
  | [d1, d2] => { results := [.lit (.bool true)], args := [d1, d2] }
  | _ => none }
def productFindsRow : OpenClaim := { program := "ytokgonpeolppnaadoor", sum := "93d85ab144dc6ccc4965e7cebb8faedf71225a3efa3d983e94869789a6978462", func := "sawmill/sawmilllaw19.ProductFinds", spec := "productFinds", inPlace := ["internal/abi.NoEscape"], unfollowed := true, recurses := true, named := ["internal/strconv.uint64pow10", "math/bits.deBruijn32tab", "math/bits.deBruijn64tab"], apart := false, laid := [("math/bits.deBruijn32tab", laid_math_bits_deBruijn32tab), ("math/bits.deBruijn64tab", laid_math_bits_deBruijn64tab), ("internal/strconv.uint64pow10", laid_internal_strconv_uint64pow10)] }
def ProductFindsSaid : Prop := productFindsRow.holds Tryd.pinned (OpenSpec.ofChange productFindsSpec)

/-- ITS FALSE NEIGHBOUR: 'it returns false'. Refute it at one input. -/
def productFindsWrong : ChangeSpec := { name := "productFinds", fn := fun _ => fun
  | [d1, d2] => { results := [.lit (.bool false)], args := [d1, d2] }
  | _ => none }
def ProductFindsWrongFalsely : Prop := productFindsRow.holds Tryd.pinned (OpenSpec.ofChange productFindsWrong)

/-- 'sawmilllaw19.ProductGreens': WHATEVER THE INPUT: true; the input reads as it did. -/
def productGreensSpec : ChangeSpec := { name := "productGreens", fn := fun _ => fun
  | [d1, d2] => { results := [.lit (.bool true)], args := [d1, d2] }
  | _ => none }
def productGreensRow : OpenClaim := { program := "ytokgonpeolppnaadoor", sum := "93d85ab144dc6ccc4965e7cebb8faedf71225a3efa3d983e94869789a6978462", func := "sawmill/sawmilllaw19.ProductGreens", spec := "productGreens", inPlace := ["internal/abi.NoEscape"], unfollowed := true, recurses := true, named := ["internal/strconv.uint64pow10", "math/bits.deBruijn32tab", "math/bits.deBruijn64tab"], apart := false, laid := [("math/bits.deBruijn32tab", laid_math_bits_deBruijn32tab), ("math/bits.deBruijn64tab", laid_math_bits_deBruijn64tab), ("internal/strconv.uint64pow10", laid_internal_strconv_uint64pow10)] }
def ProductGreensSaid : Prop := productGreensRow.holds Tryd.pinned (OpenSpec.ofChange productGreensSpec)

/-- ITS FALSE NEIGHBOUR: 'it returns false'. Refute it at one input. -/
def productGreensWrong : ChangeSpec := { name := "productGreens", fn := fun _ => fun
  | [d1, d2] => { results := [.lit (.bool false)], args := [d1, d2] }
  | _ => none }
def ProductGreensWrongFalsely : Prop := productGreensRow.holds Tryd.pinned (OpenSpec.ofChange productGreensWrong)

/-- 'sawmilllaw19.ProductBack': WHATEVER THE INPUT: true; the input reads as it did. -/
def productBackSpec : ChangeSpec := { name := "productBack", fn := fun _ => fun
  | [d] => { results := [.lit (.bool true)], args := [d] }
  | _ => none }
def productBackRow : OpenClaim := { program := "ytokgonpeolppnaadoor", sum := "93d85ab144dc6ccc4965e7cebb8faedf71225a3efa3d983e94869789a6978462", func := "sawmill/sawmilllaw19.ProductBack", spec := "productBack", inPlace := ["internal/abi.NoEscape"], unfollowed := true, recurses := true, named := ["internal/strconv.uint64pow10", "math/bits.deBruijn32tab", "math/bits.deBruijn64tab"], apart := false, laid := [("math/bits.deBruijn32tab", laid_math_bits_deBruijn32tab), ("math/bits.deBruijn64tab", laid_math_bits_deBruijn64tab), ("internal/strconv.uint64pow10", laid_internal_strconv_uint64pow10)] }
def ProductBackSaid : Prop := productBackRow.holds Tryd.pinned (OpenSpec.ofChange productBackSpec)

/-- ITS FALSE NEIGHBOUR: 'it returns false'. Refute it at one input. -/
def productBackWrong : ChangeSpec := { name := "productBack", fn := fun _ => fun
  | [d] => { results := [.lit (.bool false)], args := [d] }
  | _ => none }
def ProductBackWrongFalsely : Prop := productBackRow.holds Tryd.pinned (OpenSpec.ofChange productBackWrong)

/-- 'sawmilllaw19.ProductJoins': WHATEVER THE INPUT: true; the input reads as it did. -/
def productJoinsSpec : ChangeSpec := { name := "productJoins", fn := fun _ => fun
  | [d1, d2] => { results := [.lit (.bool true)], args := [d1, d2] }
  | _ => none }
def productJoinsRow : OpenClaim := { program := "ytokgonpeolppnaadoor", sum := "93d85ab144dc6ccc4965e7cebb8faedf71225a3efa3d983e94869789a6978462", func := "sawmill/sawmilllaw19.ProductJoins", spec := "productJoins", inPlace := ["internal/abi.NoEscape"], unfollowed := true, recurses := true, named := ["internal/strconv.uint64pow10", "math/bits.deBruijn32tab", "math/bits.deBruijn64tab"], apart := false, laid := [("math/bits.deBruijn32tab", laid_math_bits_deBruijn32tab), ("math/bits.deBruijn64tab", laid_math_bits_deBruijn64tab), ("internal/strconv.uint64pow10", laid_internal_strconv_uint64pow10)] }
def ProductJoinsSaid : Prop := productJoinsRow.holds Tryd.pinned (OpenSpec.ofChange productJoinsSpec)

/-- ITS FALSE NEIGHBOUR: 'it returns false'. Refute it at one input. -/
def productJoinsWrong : ChangeSpec := { name := "productJoins", fn := fun _ => fun
  | [d1, d2] => { results := [.lit (.bool false)], args := [d1, d2] }
  | _ => none }
def ProductJoinsWrongFalsely : Prop := productJoinsRow.holds Tryd.pinned (OpenSpec.ofChange productJoinsWrong)

/-- 'sawmilllaw19.ProductPrices': WHATEVER THE INPUT: true; the input reads as it did. -/
def productPricesSpec : ChangeSpec := { name := "productPrices", fn := fun _ => fun
  | [d1, d2] => { results := [.lit (.bool true)], args := [d1, d2] }
  | _ => none }
def productPricesRow : OpenClaim := { program := "ytokgonpeolppnaadoor", sum := "93d85ab144dc6ccc4965e7cebb8faedf71225a3efa3d983e94869789a6978462", func := "sawmill/sawmilllaw19.ProductPrices", spec := "productPrices", inPlace := ["internal/abi.NoEscape"], unfollowed := true, recurses := true, named := ["internal/strconv.uint64pow10", "math/bits.deBruijn32tab", "math/bits.deBruijn64tab"], apart := false, laid := [("math/bits.deBruijn32tab", laid_math_bits_deBruijn32tab), ("math/bits.deBruijn64tab", laid_math_bits_deBruijn64tab), ("internal/strconv.uint64pow10", laid_internal_strconv_uint64pow10)] }
def ProductPricesSaid : Prop := productPricesRow.holds Tryd.pinned (OpenSpec.ofChange productPricesSpec)

/-- ITS FALSE NEIGHBOUR: 'it returns false'. Refute it at one input. -/
def productPricesWrong : ChangeSpec := { name := "productPrices", fn := fun _ => fun
  | [d1, d2] => { results := [.lit (.bool false)], args := [d1, d2] }
  | _ => none }
def ProductPricesWrongFalsely : Prop := productPricesRow.holds Tryd.pinned (OpenSpec.ofChange productPricesWrong)

/-- 'sawmilllaw19.ProductSpaces': WHATEVER THE INPUT: true; the input reads as it did. -/
def productSpacesSpec : ChangeSpec := { name := "productSpaces", fn := fun _ => fun
  | [d] => { results := [.lit (.bool true)], args := [d] }
  | _ => none }
def productSpacesRow : OpenClaim := { program := "ytokgonpeolppnaadoor", sum := "93d85ab144dc6ccc4965e7cebb8faedf71225a3efa3d983e94869789a6978462", func := "sawmill/sawmilllaw19.ProductSpaces", spec := "productSpaces", inPlace := ["internal/abi.NoEscape", "internal/bytealg.MakeNoZero"], unfollowed := true, recurses := true, named := ["internal/strconv.uint64pow10", "math/bits.deBruijn32tab", "math/bits.deBruijn64tab"], apart := false, laid := [("math/bits.deBruijn32tab", laid_math_bits_deBruijn32tab), ("math/bits.deBruijn64tab", laid_math_bits_deBruijn64tab), ("internal/strconv.uint64pow10", laid_internal_strconv_uint64pow10)] }
def ProductSpacesSaid : Prop := productSpacesRow.holds Tryd.pinned (OpenSpec.ofChange productSpacesSpec)

/-- ITS FALSE NEIGHBOUR: 'it returns false'. Refute it at one input. -/
def productSpacesWrong : ChangeSpec := { name := "productSpaces", fn := fun _ => fun
  | [d] => { results := [.lit (.bool false)], args := [d] }
  | _ => none }
def ProductSpacesWrongFalsely : Prop := productSpacesRow.holds Tryd.pinned (OpenSpec.ofChange productSpacesWrong)

/- THE SECOND FORM. 'bulk': how many values and letters a reading holds, each counted each time it is reached (what is shared counts as often as it is met; a slice's spare places count too). A statement '..UptoSaid' is the law's where the arguments, and the package variables that the reading takes, are together of bulk at most 1048576: NARROWER than '..Said'. Prove '..Said' where nothing that the law and all that it calls make is longer than what came in: it says more and counts as full. Else prove '..UptoSaid'. A law counts once. -/
mutual
def uptoBulk {H : Type} : DataW H → Nat
  | .lit (.string bytes) => bytes.length + 1
  | .lit _ => 1
  | .nil => 1
  | .ptr d => uptoBulk d + 1
  | .slice elems spare => uptoBulkAll elems + uptoBulkAll spare + 1
  | .agg parts => uptoBulkAll parts + 1
  | .iface _ d => uptoBulk d + 1
  | .map entries => uptoBulkEntries entries + 1
  | .held _ => 1
def uptoBulkAll {H : Type} : List (DataW H) → Nat
  | [] => 0
  | d :: r => uptoBulk d + uptoBulkAll r
def uptoBulkEntries {H : Type} : List (Lit × DataW H) → Nat
  | [] => 0
  | x :: r => uptoBulkEntry x + uptoBulkEntries r
def uptoBulkEntry {H : Type} : Lit × DataW H → Nat
  | (.string bytes, d) => bytes.length + uptoBulk d + 1
  | (_, d) => uptoBulk d + 1
 end
def uptoSmall : (H : Type) → List (DataW H) → Bool := fun _ ds => decide (uptoBulkAll ds ≤ 1048576)
def OpenSpec.upto (s : _root_.Go.ChangeSpec) : _root_.Go.OpenSpec := { _root_.Go.OpenSpec.ofChange s with cond := some uptoSmall }

/-- 'sawmilllaw19.ProductChecks', WHERE WHAT IT READS IS OF BULK AT MOST 1048576: true; the input reads as it did. -/
def productChecksUptoRow : OpenClaim := { program := "ytokgonpeolppnaadoor", sum := "93d85ab144dc6ccc4965e7cebb8faedf71225a3efa3d983e94869789a6978462", func := "sawmill/sawmilllaw19.ProductChecks", spec := "productChecks", inPlace := ["internal/abi.NoEscape"], unfollowed := true, recurses := true, named := ["internal/strconv.uint64pow10", "math/bits.deBruijn32tab", "math/bits.deBruijn64tab"], apart := false, laid := [("math/bits.deBruijn32tab", laid_math_bits_deBruijn32tab), ("math/bits.deBruijn64tab", laid_math_bits_deBruijn64tab), ("internal/strconv.uint64pow10", laid_internal_strconv_uint64pow10)], narrowed := true }
def ProductChecksUptoSaid : Prop := productChecksUptoRow.holds Tryd.pinned (OpenSpec.upto productChecksSpec)

/-- 'sawmilllaw19.ProductSizes', WHERE WHAT IT READS IS OF BULK AT MOST 1048576: true; the input reads as it did. -/
def productSizesUptoRow : OpenClaim := { program := "ytokgonpeolppnaadoor", sum := "93d85ab144dc6ccc4965e7cebb8faedf71225a3efa3d983e94869789a6978462", func := "sawmill/sawmilllaw19.ProductSizes", spec := "productSizes", inPlace := ["internal/abi.NoEscape"], unfollowed := true, recurses := true, named := ["internal/strconv.uint64pow10", "math/bits.deBruijn32tab", "math/bits.deBruijn64tab"], apart := false, laid := [("math/bits.deBruijn32tab", laid_math_bits_deBruijn32tab), ("math/bits.deBruijn64tab", laid_math_bits_deBruijn64tab), ("internal/strconv.uint64pow10", laid_internal_strconv_uint64pow10)], narrowed := true }
def ProductSizesUptoSaid : Prop := productSizesUptoRow.holds Tryd.pinned (OpenSpec.upto productSizesSpec)

/-- 'sawmilllaw19.ProductTexts', WHERE WHAT IT READS IS OF BULK AT MOST 1048576: true; the input reads as it did. -/
def productTextsUptoRow : OpenClaim := { program := "ytokgonpeolppnaadoor", sum := "93d85ab144dc6ccc4965e7cebb8faedf71225a3efa3d983e94869789a6978462", func := "sawmill/sawmilllaw19.ProductTexts", spec := "productTexts", inPlace := ["internal/abi.NoEscape"], unfollowed := true, recurses := true, named := ["internal/strconv.uint64pow10", "math/bits.deBruijn32tab", "math/bits.deBruijn64tab"], apart := false, laid := [("math/bits.deBruijn32tab", laid_math_bits_deBruijn32tab), ("math/bits.deBruijn64tab", laid_math_bits_deBruijn64tab), ("internal/strconv.uint64pow10", laid_internal_strconv_uint64pow10)], narrowed := true }
def ProductTextsUptoSaid : Prop := productTextsUptoRow.holds Tryd.pinned (OpenSpec.upto productTextsSpec)

/-- 'sawmilllaw19.ProductFinds', WHERE WHAT IT READS IS OF BULK AT MOST 1048576: true; the input reads as it did. -/
def productFindsUptoRow : OpenClaim := { program := "ytokgonpeolppnaadoor", sum := "93d85ab144dc6ccc4965e7cebb8faedf71225a3efa3d983e94869789a6978462", func := "sawmill/sawmilllaw19.ProductFinds", spec := "productFinds", inPlace := ["internal/abi.NoEscape"], unfollowed := true, recurses := true, named := ["internal/strconv.uint64pow10", "math/bits.deBruijn32tab", "math/bits.deBruijn64tab"], apart := false, laid := [("math/bits.deBruijn32tab", laid_math_bits_deBruijn32tab), ("math/bits.deBruijn64tab", laid_math_bits_deBruijn64tab), ("internal/strconv.uint64pow10", laid_internal_strconv_uint64pow10)], narrowed := true }
def ProductFindsUptoSaid : Prop := productFindsUptoRow.holds Tryd.pinned (OpenSpec.upto productFindsSpec)

/-- 'sawmilllaw19.ProductGreens', WHERE WHAT IT READS IS OF BULK AT MOST 1048576: true; the input reads as it did. -/
def productGreensUptoRow : OpenClaim := { program := "ytokgonpeolppnaadoor", sum := "93d85ab144dc6ccc4965e7cebb8faedf71225a3efa3d983e94869789a6978462", func := "sawmill/sawmilllaw19.ProductGreens", spec := "productGreens", inPlace := ["internal/abi.NoEscape"], unfollowed := true, recurses := true, named := ["internal/strconv.uint64pow10", "math/bits.deBruijn32tab", "math/bits.deBruijn64tab"], apart := false, laid := [("math/bits.deBruijn32tab", laid_math_bits_deBruijn32tab), ("math/bits.deBruijn64tab", laid_math_bits_deBruijn64tab), ("internal/strconv.uint64pow10", laid_internal_strconv_uint64pow10)], narrowed := true }
def ProductGreensUptoSaid : Prop := productGreensUptoRow.holds Tryd.pinned (OpenSpec.upto productGreensSpec)

/-- 'sawmilllaw19.ProductBack', WHERE WHAT IT READS IS OF BULK AT MOST 1048576: true; the input reads as it did. -/
def productBackUptoRow : OpenClaim := { program := "ytokgonpeolppnaadoor", sum := "93d85ab144dc6ccc4965e7cebb8faedf71225a3efa3d983e94869789a6978462", func := "sawmill/sawmilllaw19.ProductBack", spec := "productBack", inPlace := ["internal/abi.NoEscape"], unfollowed := true, recurses := true, named := ["internal/strconv.uint64pow10", "math/bits.deBruijn32tab", "math/bits.deBruijn64tab"], apart := false, laid := [("math/bits.deBruijn32tab", laid_math_bits_deBruijn32tab), ("math/bits.deBruijn64tab", laid_math_bits_deBruijn64tab), ("internal/strconv.uint64pow10", laid_internal_strconv_uint64pow10)], narrowed := true }
def ProductBackUptoSaid : Prop := productBackUptoRow.holds Tryd.pinned (OpenSpec.upto productBackSpec)

/-- 'sawmilllaw19.ProductJoins', WHERE WHAT IT READS IS OF BULK AT MOST 1048576: true; the input reads as it did. -/
def productJoinsUptoRow : OpenClaim := { program := "ytokgonpeolppnaadoor", sum := "93d85ab144dc6ccc4965e7cebb8faedf71225a3efa3d983e94869789a6978462", func := "sawmill/sawmilllaw19.ProductJoins", spec := "productJoins", inPlace := ["internal/abi.NoEscape"], unfollowed := true, recurses := true, named := ["internal/strconv.uint64pow10", "math/bits.deBruijn32tab", "math/bits.deBruijn64tab"], apart := false, laid := [("math/bits.deBruijn32tab", laid_math_bits_deBruijn32tab), ("math/bits.deBruijn64tab", laid_math_bits_deBruijn64tab), ("internal/strconv.uint64pow10", laid_internal_strconv_uint64pow10)], narrowed := true }
def ProductJoinsUptoSaid : Prop := productJoinsUptoRow.holds Tryd.pinned (OpenSpec.upto productJoinsSpec)

/-- 'sawmilllaw19.ProductPrices', WHERE WHAT IT READS IS OF BULK AT MOST 1048576: true; the input reads as it did. -/
def productPricesUptoRow : OpenClaim := { program := "ytokgonpeolppnaadoor", sum := "93d85ab144dc6ccc4965e7cebb8faedf71225a3efa3d983e94869789a6978462", func := "sawmill/sawmilllaw19.ProductPrices", spec := "productPrices", inPlace := ["internal/abi.NoEscape"], unfollowed := true, recurses := true, named := ["internal/strconv.uint64pow10", "math/bits.deBruijn32tab", "math/bits.deBruijn64tab"], apart := false, laid := [("math/bits.deBruijn32tab", laid_math_bits_deBruijn32tab), ("math/bits.deBruijn64tab", laid_math_bits_deBruijn64tab), ("internal/strconv.uint64pow10", laid_internal_strconv_uint64pow10)], narrowed := true }
def ProductPricesUptoSaid : Prop := productPricesUptoRow.holds Tryd.pinned (OpenSpec.upto productPricesSpec)

/-- 'sawmilllaw19.ProductSpaces', WHERE WHAT IT READS IS OF BULK AT MOST 1048576: true; the input reads as it did. -/
def productSpacesUptoRow : OpenClaim := { program := "ytokgonpeolppnaadoor", sum := "93d85ab144dc6ccc4965e7cebb8faedf71225a3efa3d983e94869789a6978462", func := "sawmill/sawmilllaw19.ProductSpaces", spec := "productSpaces", inPlace := ["internal/abi.NoEscape", "internal/bytealg.MakeNoZero"], unfollowed := true, recurses := true, named := ["internal/strconv.uint64pow10", "math/bits.deBruijn32tab", "math/bits.deBruijn64tab"], apart := false, laid := [("math/bits.deBruijn32tab", laid_math_bits_deBruijn32tab), ("math/bits.deBruijn64tab", laid_math_bits_deBruijn64tab), ("internal/strconv.uint64pow10", laid_internal_strconv_uint64pow10)], narrowed := true }
def ProductSpacesUptoSaid : Prop := productSpacesUptoRow.holds Tryd.pinned (OpenSpec.upto productSpacesSpec)

end Rows
end Go.Proofs.YtokgonpeolppnaaDoor
