/-
  NARROWER THAN 'FOR EVERY INPUT', by the rows' own cells (each row's printed sentence says how): ScheduleChecks: laid · ScheduleEnds: laid · ScheduleFormats: laid · ScheduleParses: laid · ScheduleBack: laid · ScheduleSteps: laid · ScheduleTargets: laid · SchedulePrinted: laid.
  DERIVED. THE GIVEN ROWS OF THIS SEAT. 8 by the template 'for every input the law returns true; each argument reads behind the call as it read before'; 0 by the template 'total and deterministic' (their statements: YtabdlldkkcjppaaDoorTotals.lean).
  GIVEN WITH THE SEED: the statements are not yours to turn. If you find one false, say at which input.
  Laid BY PROGRAM, IN A SANDBOX (cutbox-rows.mjs): the forced cells as the released guide's own fill.sh prints them over the translation 741e0867aedb18b9… (all of the seat's roots in one cut). By AI agents, Wed Nov 11 2026. No macro, syntax, notation, axiom, sorry.
-/
import Derived.Test.YtabdlldkkcjppaaDoorChecked
import GoSem.Claim
import GoSem.ClaimJoined
import GoSem.ClaimMapViews
import Derived.JoinedTies
import Derived.KernelRfl
namespace Go.Proofs.YtabdlldkkcjppaaDoor
/- THE CELL 'sum', in the pinned program and in every row, IS THE sha256 OF THE DUMP (.gsa) THAT YtabdlldkkcjppaaDoorProg.lean LOADS. Nothing in Lean hashes anything: it is a label: what it is worth is what the hold of that sum in a sandbox is worth. -/
noncomputable def Tryd.pinned : Pinned := { name := "ytabdlldkkcjppaadoor", sum := "741e0867aedb18b946555492fefca8613820547bf29078ec0bc655329ae29b47", checked := Tryd.checked }
namespace Rows
def none {H : Type} : Left H := { results := [], args := [] }

/- WHAT THE LISTED PACKAGE-LEVEL VARIABLES READ AS WHEN THE CALL BEGINS. Each datum BY PROGRAM (the guide's laid-datum.mjs) off the statement by which the dump's own 'gosem.cut.vars' lays the variable. In a bare row this is a premise. The card (YtabdlldkkcjppaaDoorCards.lean) ties it to the program's text. -/
def laid_math_bits_deBruijn32tab {H : Type} : DataW H := .agg [.lit (.int .u8 0), .lit (.int .u8 1), .lit (.int .u8 28), .lit (.int .u8 2), .lit (.int .u8 29), .lit (.int .u8 14), .lit (.int .u8 24), .lit (.int .u8 3), .lit (.int .u8 30), .lit (.int .u8 22), .lit (.int .u8 20), .lit (.int .u8 15), .lit (.int .u8 25), .lit (.int .u8 17), .lit (.int .u8 4), .lit (.int .u8 8), .lit (.int .u8 31), .lit (.int .u8 27), .lit (.int .u8 13), .lit (.int .u8 23), .lit (.int .u8 21), .lit (.int .u8 19), .lit (.int .u8 16), .lit (.int .u8 7), .lit (.int .u8 26), .lit (.int .u8 12), .lit (.int .u8 18), .lit (.int .u8 6), .lit (.int .u8 11), .lit (.int .u8 5), .lit (.int .u8 10), .lit (.int .u8 9)]
def laid_math_bits_deBruijn64tab {H : Type} : DataW H := .agg [.lit (.int .u8 0), .lit (.int .u8 1), .lit (.int .u8 56), .lit (.int .u8 2), .lit (.int .u8 57), .lit (.int .u8 49), .lit (.int .u8 28), .lit (.int .u8 3), .lit (.int .u8 61), .lit (.int .u8 58), .lit (.int .u8 42), .lit (.int .u8 50), .lit (.int .u8 38), .lit (.int .u8 29), .lit (.int .u8 17), .lit (.int .u8 4), .lit (.int .u8 62), .lit (.int .u8 47), .lit (.int .u8 59), .lit (.int .u8 36), .lit (.int .u8 45), .lit (.int .u8 43), .lit (.int .u8 51), .lit (.int .u8 22), .lit (.int .u8 53), .lit (.int .u8 39), .lit (.int .u8 33), .lit (.int .u8 30), .lit (.int .u8 24), .lit (.int .u8 18), .lit (.int .u8 12), .lit (.int .u8 5), .lit (.int .u8 63), .lit (.int .u8 55), .lit (.int .u8 48), .lit (.int .u8 27), .lit (.int .u8 60), .lit (.int .u8 41), .lit (.int .u8 37), .lit (.int .u8 16), .lit (.int .u8 46), .lit (.int .u8 35), .lit (.int .u8 44), .lit (.int .u8 21), .lit (.int .u8 52), .lit (.int .u8 32), .lit (.int .u8 23), .lit (.int .u8 11), .lit (.int .u8 54), .lit (.int .u8 26), .lit (.int .u8 40), .lit (.int .u8 15), .lit (.int .u8 34), .lit (.int .u8 20), .lit (.int .u8 31), .lit (.int .u8 10), .lit (.int .u8 25), .lit (.int .u8 14), .lit (.int .u8 19), .lit (.int .u8 9), .lit (.int .u8 13), .lit (.int .u8 8), .lit (.int .u8 7), .lit (.int .u8 6)]
def laid_internal_strconv_uint64pow10 {H : Type} : DataW H := .agg [.lit (.int .u64 1), .lit (.int .u64 10), .lit (.int .u64 100), .lit (.int .u64 1000), .lit (.int .u64 10000), .lit (.int .u64 100000), .lit (.int .u64 1000000), .lit (.int .u64 10000000), .lit (.int .u64 100000000), .lit (.int .u64 1000000000), .lit (.int .u64 10000000000), .lit (.int .u64 100000000000), .lit (.int .u64 1000000000000), .lit (.int .u64 10000000000000), .lit (.int .u64 100000000000000), .lit (.int .u64 1000000000000000), .lit (.int .u64 10000000000000000), .lit (.int .u64 100000000000000000), .lit (.int .u64 1000000000000000000), .lit (.int .u64 10000000000000000000)]
def laid_sawmill_schedule_words {H : Type} : DataW H := .agg [.lit (.string [98, 101, 108, 111, 119]), .lit (.string [102, 111, 114]), .lit (.string [97, 116])]

/-- 'sawmilllaw37.ScheduleChecks': WHATEVER THE INPUT: true; the input reads as it did. -/
def scheduleChecksSpec : ChangeSpec := { name := "scheduleChecks", fn := fun _ => fun
  | [d1, d2, d3] => { results := [.lit (.bool true)], args := [d1, d2, d3] }
  | _ => none }
def scheduleChecksRow : OpenClaim := { program := "ytabdlldkkcjppaadoor", sum := "741e0867aedb18b946555492fefca8613820547bf29078ec0bc655329ae29b47", func := "sawmill/sawmilllaw37.ScheduleChecks", spec := "scheduleChecks", inPlace := ["internal/abi.NoEscape"], unfollowed := true, recurses := true, named := ["sawmill/schedule.words", "internal/strconv.uint64pow10", "math/bits.deBruijn32tab", "math/bits.deBruijn64tab"], apart := false, laid := [("math/bits.deBruijn32tab", laid_math_bits_deBruijn32tab), ("math/bits.deBruijn64tab", laid_math_bits_deBruijn64tab), ("internal/strconv.uint64pow10", laid_internal_strconv_uint64pow10), ("sawmill/schedule.words", laid_sawmill_schedule_words)] }
def ScheduleChecksSaid : Prop := scheduleChecksRow.holds Tryd.pinned (OpenSpec.ofChange scheduleChecksSpec)

/-- ITS FALSE NEIGHBOUR: 'it returns false'. Refute it at one input. -/
def scheduleChecksWrong : ChangeSpec := { name := "scheduleChecks", fn := fun _ => fun
  | [d1, d2, d3] => { results := [.lit (.bool false)], args := [d1, d2, d3] }
  | _ => none }
def ScheduleChecksWrongFalsely : Prop := scheduleChecksRow.holds Tryd.pinned (OpenSpec.ofChange scheduleChecksWrong)

/-- 'sawmilllaw37.ScheduleEnds': WHATEVER THE INPUT: true; the input reads as it did. -/
def scheduleEndsSpec : ChangeSpec := { name := "scheduleEnds", fn := fun _ => fun
  | [d1, d2, d3] => { results := [.lit (.bool true)], args := [d1, d2, d3] }
  | _ => none }
def scheduleEndsRow : OpenClaim := { program := "ytabdlldkkcjppaadoor", sum := "741e0867aedb18b946555492fefca8613820547bf29078ec0bc655329ae29b47", func := "sawmill/sawmilllaw37.ScheduleEnds", spec := "scheduleEnds", inPlace := ["internal/abi.NoEscape"], unfollowed := true, recurses := true, named := ["sawmill/schedule.words", "internal/strconv.uint64pow10", "math/bits.deBruijn32tab", "math/bits.deBruijn64tab"], apart := false, laid := [("math/bits.deBruijn32tab", laid_math_bits_deBruijn32tab), ("math/bits.deBruijn64tab", laid_math_bits_deBruijn64tab), ("internal/strconv.uint64pow10", laid_internal_strconv_uint64pow10), ("sawmill/schedule.words", laid_sawmill_schedule_words)] }
def ScheduleEndsSaid : Prop := scheduleEndsRow.holds Tryd.pinned (OpenSpec.ofChange scheduleEndsSpec)

/-- ITS FALSE NEIGHBOUR: 'it returns false'. Refute it at one input. -/
def scheduleEndsWrong : ChangeSpec := { name := "scheduleEnds", fn := fun _ => fun
  | [d1, d2, d3] => { results := [.lit (.bool false)], args := [d1, d2, d3] }
  | _ => none }
def ScheduleEndsWrongFalsely : Prop := scheduleEndsRow.holds Tryd.pinned (OpenSpec.ofChange scheduleEndsWrong)

/-- 'sawmilllaw37.ScheduleFormats': WHATEVER THE INPUT: true; the input reads as it did. -/
def scheduleFormatsSpec : ChangeSpec := { name := "scheduleFormats", fn := fun _ => fun
  | [d] => { results := [.lit (.bool true)], args := [d] }
  | _ => none }
def scheduleFormatsRow : OpenClaim := { program := "ytabdlldkkcjppaadoor", sum := "741e0867aedb18b946555492fefca8613820547bf29078ec0bc655329ae29b47", func := "sawmill/sawmilllaw37.ScheduleFormats", spec := "scheduleFormats", inPlace := ["internal/abi.NoEscape"], unfollowed := true, recurses := true, named := ["sawmill/schedule.words", "internal/strconv.uint64pow10", "math/bits.deBruijn32tab", "math/bits.deBruijn64tab"], apart := false, laid := [("math/bits.deBruijn32tab", laid_math_bits_deBruijn32tab), ("math/bits.deBruijn64tab", laid_math_bits_deBruijn64tab), ("internal/strconv.uint64pow10", laid_internal_strconv_uint64pow10), ("sawmill/schedule.words", laid_sawmill_schedule_words)] }
def ScheduleFormatsSaid : Prop := scheduleFormatsRow.holds Tryd.pinned (OpenSpec.ofChange scheduleFormatsSpec)

/-- ITS FALSE NEIGHBOUR: 'it returns false'. Refute it at one input. -/
def scheduleFormatsWrong : ChangeSpec := { name := "scheduleFormats", fn := fun _ => fun
  | [d] => { results := [.lit (.bool false)], args := [d] }
  | _ => none }
def ScheduleFormatsWrongFalsely : Prop := scheduleFormatsRow.holds Tryd.pinned (OpenSpec.ofChange scheduleFormatsWrong)

/-- 'sawmilllaw37.ScheduleParses': WHATEVER THE INPUT: true; the input reads as it did. -/
def scheduleParsesSpec : ChangeSpec := { name := "scheduleParses", fn := fun _ => fun
  | [d] => { results := [.lit (.bool true)], args := [d] }
  | _ => none }
def scheduleParsesRow : OpenClaim := { program := "ytabdlldkkcjppaadoor", sum := "741e0867aedb18b946555492fefca8613820547bf29078ec0bc655329ae29b47", func := "sawmill/sawmilllaw37.ScheduleParses", spec := "scheduleParses", inPlace := ["internal/abi.NoEscape"], unfollowed := true, recurses := true, named := ["sawmill/schedule.words", "internal/strconv.uint64pow10", "math/bits.deBruijn32tab", "math/bits.deBruijn64tab"], apart := false, laid := [("math/bits.deBruijn32tab", laid_math_bits_deBruijn32tab), ("math/bits.deBruijn64tab", laid_math_bits_deBruijn64tab), ("internal/strconv.uint64pow10", laid_internal_strconv_uint64pow10), ("sawmill/schedule.words", laid_sawmill_schedule_words)] }
def ScheduleParsesSaid : Prop := scheduleParsesRow.holds Tryd.pinned (OpenSpec.ofChange scheduleParsesSpec)

/-- ITS FALSE NEIGHBOUR: 'it returns false'. Refute it at one input. -/
def scheduleParsesWrong : ChangeSpec := { name := "scheduleParses", fn := fun _ => fun
  | [d] => { results := [.lit (.bool false)], args := [d] }
  | _ => none }
def ScheduleParsesWrongFalsely : Prop := scheduleParsesRow.holds Tryd.pinned (OpenSpec.ofChange scheduleParsesWrong)

/-- 'sawmilllaw37.ScheduleBack': WHATEVER THE INPUT: true; the input reads as it did. -/
def scheduleBackSpec : ChangeSpec := { name := "scheduleBack", fn := fun _ => fun
  | [d] => { results := [.lit (.bool true)], args := [d] }
  | _ => none }
def scheduleBackRow : OpenClaim := { program := "ytabdlldkkcjppaadoor", sum := "741e0867aedb18b946555492fefca8613820547bf29078ec0bc655329ae29b47", func := "sawmill/sawmilllaw37.ScheduleBack", spec := "scheduleBack", inPlace := ["internal/abi.NoEscape"], unfollowed := true, recurses := true, named := ["sawmill/schedule.words", "internal/strconv.uint64pow10", "math/bits.deBruijn32tab", "math/bits.deBruijn64tab"], apart := false, laid := [("math/bits.deBruijn32tab", laid_math_bits_deBruijn32tab), ("math/bits.deBruijn64tab", laid_math_bits_deBruijn64tab), ("internal/strconv.uint64pow10", laid_internal_strconv_uint64pow10), ("sawmill/schedule.words", laid_sawmill_schedule_words)] }
def ScheduleBackSaid : Prop := scheduleBackRow.holds Tryd.pinned (OpenSpec.ofChange scheduleBackSpec)

/-- ITS FALSE NEIGHBOUR: 'it returns false'. Refute it at one input. -/
def scheduleBackWrong : ChangeSpec := { name := "scheduleBack", fn := fun _ => fun
  | [d] => { results := [.lit (.bool false)], args := [d] }
  | _ => none }
def ScheduleBackWrongFalsely : Prop := scheduleBackRow.holds Tryd.pinned (OpenSpec.ofChange scheduleBackWrong)

/-- 'sawmilllaw37.ScheduleSteps': WHATEVER THE INPUT: true; the input reads as it did. -/
def scheduleStepsSpec : ChangeSpec := { name := "scheduleSteps", fn := fun _ => fun
  | [d1, d2, d3] => { results := [.lit (.bool true)], args := [d1, d2, d3] }
  | _ => none }
def scheduleStepsRow : OpenClaim := { program := "ytabdlldkkcjppaadoor", sum := "741e0867aedb18b946555492fefca8613820547bf29078ec0bc655329ae29b47", func := "sawmill/sawmilllaw37.ScheduleSteps", spec := "scheduleSteps", inPlace := ["internal/abi.NoEscape"], unfollowed := true, recurses := true, named := ["sawmill/schedule.words", "internal/strconv.uint64pow10", "math/bits.deBruijn32tab", "math/bits.deBruijn64tab"], apart := false, laid := [("math/bits.deBruijn32tab", laid_math_bits_deBruijn32tab), ("math/bits.deBruijn64tab", laid_math_bits_deBruijn64tab), ("internal/strconv.uint64pow10", laid_internal_strconv_uint64pow10), ("sawmill/schedule.words", laid_sawmill_schedule_words)] }
def ScheduleStepsSaid : Prop := scheduleStepsRow.holds Tryd.pinned (OpenSpec.ofChange scheduleStepsSpec)

/-- ITS FALSE NEIGHBOUR: 'it returns false'. Refute it at one input. -/
def scheduleStepsWrong : ChangeSpec := { name := "scheduleSteps", fn := fun _ => fun
  | [d1, d2, d3] => { results := [.lit (.bool false)], args := [d1, d2, d3] }
  | _ => none }
def ScheduleStepsWrongFalsely : Prop := scheduleStepsRow.holds Tryd.pinned (OpenSpec.ofChange scheduleStepsWrong)

/-- 'sawmilllaw37.ScheduleTargets': WHATEVER THE INPUT: true; the input reads as it did. -/
def scheduleTargetsSpec : ChangeSpec := { name := "scheduleTargets", fn := fun _ => fun
  | [d1, d2, d3] => { results := [.lit (.bool true)], args := [d1, d2, d3] }
  | _ => none }
def scheduleTargetsRow : OpenClaim := { program := "ytabdlldkkcjppaadoor", sum := "741e0867aedb18b946555492fefca8613820547bf29078ec0bc655329ae29b47", func := "sawmill/sawmilllaw37.ScheduleTargets", spec := "scheduleTargets", inPlace := ["internal/abi.NoEscape"], unfollowed := true, recurses := true, named := ["sawmill/schedule.words", "internal/strconv.uint64pow10", "math/bits.deBruijn32tab", "math/bits.deBruijn64tab"], apart := false, laid := [("math/bits.deBruijn32tab", laid_math_bits_deBruijn32tab), ("math/bits.deBruijn64tab", laid_math_bits_deBruijn64tab), ("internal/strconv.uint64pow10", laid_internal_strconv_uint64pow10), ("sawmill/schedule.words", laid_sawmill_schedule_words)] }
def ScheduleTargetsSaid : Prop := scheduleTargetsRow.holds Tryd.pinned (OpenSpec.ofChange scheduleTargetsSpec)

/-- ITS FALSE NEIGHBOUR: 'it returns false'. Refute it at one input. -/
def scheduleTargetsWrong : ChangeSpec := { name := "scheduleTargets", fn := fun _ => fun
  | [d1, d2, d3] => { results := [.lit (.bool false)], args := [d1, d2, d3] }
  | _ => none }
def ScheduleTargetsWrongFalsely : Prop := scheduleTargetsRow.holds Tryd.pinned (OpenSpec.ofChange scheduleTargetsWrong)

/-- 'sawmilllaw37.SchedulePrinted': WHATEVER THE INPUT: true; the input reads as it did. -/
def schedulePrintedSpec : ChangeSpec := { name := "schedulePrinted", fn := fun _ => fun
  | [d] => { results := [.lit (.bool true)], args := [d] }
  | _ => none }
def schedulePrintedRow : OpenClaim := { program := "ytabdlldkkcjppaadoor", sum := "741e0867aedb18b946555492fefca8613820547bf29078ec0bc655329ae29b47", func := "sawmill/sawmilllaw37.SchedulePrinted", spec := "schedulePrinted", inPlace := ["internal/abi.NoEscape"], unfollowed := true, recurses := true, named := ["sawmill/schedule.words", "internal/strconv.uint64pow10", "math/bits.deBruijn32tab", "math/bits.deBruijn64tab"], apart := false, laid := [("math/bits.deBruijn32tab", laid_math_bits_deBruijn32tab), ("math/bits.deBruijn64tab", laid_math_bits_deBruijn64tab), ("internal/strconv.uint64pow10", laid_internal_strconv_uint64pow10), ("sawmill/schedule.words", laid_sawmill_schedule_words)] }
def SchedulePrintedSaid : Prop := schedulePrintedRow.holds Tryd.pinned (OpenSpec.ofChange schedulePrintedSpec)

/-- ITS FALSE NEIGHBOUR: 'it returns false'. Refute it at one input. -/
def schedulePrintedWrong : ChangeSpec := { name := "schedulePrinted", fn := fun _ => fun
  | [d] => { results := [.lit (.bool false)], args := [d] }
  | _ => none }
def SchedulePrintedWrongFalsely : Prop := schedulePrintedRow.holds Tryd.pinned (OpenSpec.ofChange schedulePrintedWrong)

/- THE SECOND FORM. 'bulk': how many values and letters a reading holds, each counted each time it is reached (what is shared counts as often as it is met; a slice's spare places count too). A statement '..UptoSaid' is the law's where the arguments, and the package variables that the reading takes, are together of bulk at most 1048576: NARROWER than '..Said'. Prove '..Said' where nothing that the law and all that it calls make is longer than what came in: it says more and counts as full. Else prove '..UptoSaid'. A law counts once. -/
mutual
def uptoBulk {H : Type} : DataW H → Nat
  | .lit (.string bytes) => bytes.length + 1
  | .lit _ => 1
  | .nil => 1
  | .ptr d => uptoBulk d + 1
  | .slice elems spare => uptoBulkAll elems + uptoBulkAll spare + 1
  | .agg parts => uptoBulkAll parts + 1
  | .iface _ d => uptoBulk d + 1
  | .map entries => uptoBulkEntries entries + 1
  | .held _ => 1
def uptoBulkAll {H : Type} : List (DataW H) → Nat
  | [] => 0
  | d :: r => uptoBulk d + uptoBulkAll r
def uptoBulkEntries {H : Type} : List (Lit × DataW H) → Nat
  | [] => 0
  | x :: r => uptoBulkEntry x + uptoBulkEntries r
def uptoBulkEntry {H : Type} : Lit × DataW H → Nat
  | (.string bytes, d) => bytes.length + uptoBulk d + 1
  | (_, d) => uptoBulk d + 1
 end
def uptoSmall : (H : Type) → List (DataW H) → Bool := fun _ ds => decide (uptoBulkAll ds ≤ 1048576)
def OpenSpec.upto (s : _root_.Go.ChangeSpec) : _root_.Go.OpenSpec := { _root_.Go.OpenSpec.ofChange s with cond := some uptoSmall }

/-- 'sawmilllaw37.ScheduleChecks', WHERE WHAT IT READS IS OF BULK AT MOST 1048576: true; the input reads as it did. -/
def scheduleChecksUptoRow : OpenClaim := { program := "ytabdlldkkcjppaadoor", sum := "741e0867aedb18b946555492fefca8613820547bf29078ec0bc655329ae29b47", func := "sawmill/sawmilllaw37.ScheduleChecks", spec := "scheduleChecks", inPlace := ["internal/abi.NoEscape"], unfollowed := true, recurses := true, named := ["sawmill/schedule.words", "internal/strconv.uint64pow10", "math/bits.deBruijn32tab", "math/bits.deBruijn64tab"], apart := false, laid := [("math/bits.deBruijn32tab", laid_math_bits_deBruijn32tab), ("math/bits.deBruijn64tab", laid_math_bits_deBruijn64tab), ("internal/strconv.uint64pow10", laid_internal_strconv_uint64pow10), ("sawmill/schedule.words", laid_sawmill_schedule_words)], narrowed := true }
def ScheduleChecksUptoSaid : Prop := scheduleChecksUptoRow.holds Tryd.pinned (OpenSpec.upto scheduleChecksSpec)

/-- 'sawmilllaw37.ScheduleEnds', WHERE WHAT IT READS IS OF BULK AT MOST 1048576: true; the input reads as it did. -/
def scheduleEndsUptoRow : OpenClaim := { program := "ytabdlldkkcjppaadoor", sum := "741e0867aedb18b946555492fefca8613820547bf29078ec0bc655329ae29b47", func := "sawmill/sawmilllaw37.ScheduleEnds", spec := "scheduleEnds", inPlace := ["internal/abi.NoEscape"], unfollowed := true, recurses := true, named := ["sawmill/schedule.words", "internal/strconv.uint64pow10", "math/bits.deBruijn32tab", "math/bits.deBruijn64tab"], apart := false, laid := [("math/bits.deBruijn32tab", laid_math_bits_deBruijn32tab), ("math/bits.deBruijn64tab", laid_math_bits_deBruijn64tab), ("internal/strconv.uint64pow10", laid_internal_strconv_uint64pow10), ("sawmill/schedule.words", laid_sawmill_schedule_words)], narrowed := true }
def ScheduleEndsUptoSaid : Prop := scheduleEndsUptoRow.holds Tryd.pinned (OpenSpec.upto scheduleEndsSpec)

/-- 'sawmilllaw37.ScheduleFormats', WHERE WHAT IT READS IS OF BULK AT MOST 1048576: true; the input reads as it did. -/
def scheduleFormatsUptoRow : OpenClaim := { program := "ytabdlldkkcjppaadoor", sum := "741e0867aedb18b946555492fefca8613820547bf29078ec0bc655329ae29b47", func := "sawmill/sawmilllaw37.ScheduleFormats", spec := "scheduleFormats", inPlace := ["internal/abi.NoEscape"], unfollowed := true, recurses := true, named := ["sawmill/schedule.words", "internal/strconv.uint64pow10", "math/bits.deBruijn32tab", "math/bits.deBruijn64tab"], apart := false, laid := [("math/bits.deBruijn32tab", laid_math_bits_deBruijn32tab), ("math/bits.deBruijn64tab", laid_math_bits_deBruijn64tab), ("internal/strconv.uint64pow10", laid_internal_strconv_uint64pow10), ("sawmill/schedule.words", laid_sawmill_schedule_words)], narrowed := true }
def ScheduleFormatsUptoSaid : Prop := scheduleFormatsUptoRow.holds Tryd.pinned (OpenSpec.upto scheduleFormatsSpec)

/-- 'sawmilllaw37.ScheduleParses', WHERE WHAT IT READS IS OF BULK AT MOST 1048576: true; the input reads as it did. -/
def scheduleParsesUptoRow : OpenClaim := { program := "ytabdlldkkcjppaadoor", sum := "741e0867aedb18b946555492fefca8613820547bf29078ec0bc655329ae29b47", func := "sawmill/sawmilllaw37.ScheduleParses", spec := "scheduleParses", inPlace := ["internal/abi.NoEscape"], unfollowed := true, recurses := true, named := ["sawmill/schedule.words", "internal/strconv.uint64pow10", "math/bits.deBruijn32tab", "math/bits.deBruijn64tab"], apart := false, laid := [("math/bits.deBruijn32tab", laid_math_bits_deBruijn32tab), ("math/bits.deBruijn64tab", laid_math_bits_deBruijn64tab), ("internal/strconv.uint64pow10", laid_internal_strconv_uint64pow10), ("sawmill/schedule.words", laid_sawmill_schedule_words)], narrowed := true }
def ScheduleParsesUptoSaid : Prop := scheduleParsesUptoRow.holds Tryd.pinned (OpenSpec.upto scheduleParsesSpec)

/-- 'sawmilllaw37.ScheduleBack', WHERE WHAT IT READS IS OF BULK AT MOST 1048576: true; the input reads as it did. -/
def scheduleBackUptoRow : OpenClaim := { program := "ytabdlldkkcjppaadoor", sum := "741e0867aedb18b946555492fefca8613820547bf29078ec0bc655329ae29b47", func := "sawmill/sawmilllaw37.ScheduleBack", spec := "scheduleBack", inPlace := ["internal/abi.NoEscape"], unfollowed := true, recurses := true, named := ["sawmill/schedule.words", "internal/strconv.uint64pow10", "math/bits.deBruijn32tab", "math/bits.deBruijn64tab"], apart := false, laid := [("math/bits.deBruijn32tab", laid_math_bits_deBruijn32tab), ("math/bits.deBruijn64tab", laid_math_bits_deBruijn64tab), ("internal/strconv.uint64pow10", laid_internal_strconv_uint64pow10), ("sawmill/schedule.words", laid_sawmill_schedule_words)], narrowed := true }
def ScheduleBackUptoSaid : Prop := scheduleBackUptoRow.holds Tryd.pinned (OpenSpec.upto scheduleBackSpec)

/-- 'sawmilllaw37.ScheduleSteps', WHERE WHAT IT READS IS OF BULK AT MOST 1048576: true; the input reads as it did. -/
def scheduleStepsUptoRow : OpenClaim := { program := "ytabdlldkkcjppaadoor", sum := "741e0867aedb18b946555492fefca8613820547bf29078ec0bc655329ae29b47", func := "sawmill/sawmilllaw37.ScheduleSteps", spec := "scheduleSteps", inPlace := ["internal/abi.NoEscape"], unfollowed := true, recurses := true, named := ["sawmill/schedule.words", "internal/strconv.uint64pow10", "math/bits.deBruijn32tab", "math/bits.deBruijn64tab"], apart := false, laid := [("math/bits.deBruijn32tab", laid_math_bits_deBruijn32tab), ("math/bits.deBruijn64tab", laid_math_bits_deBruijn64tab), ("internal/strconv.uint64pow10", laid_internal_strconv_uint64pow10), ("sawmill/schedule.words", laid_sawmill_schedule_words)], narrowed := true }
def ScheduleStepsUptoSaid : Prop := scheduleStepsUptoRow.holds Tryd.pinned (OpenSpec.upto scheduleStepsSpec)

/-- 'sawmilllaw37.ScheduleTargets', WHERE WHAT IT READS IS OF BULK AT MOST 1048576: true; the input reads as it did. -/
def scheduleTargetsUptoRow : OpenClaim := { program := "ytabdlldkkcjppaadoor", sum := "741e0867aedb18b946555492fefca8613820547bf29078ec0bc655329ae29b47", func := "sawmill/sawmilllaw37.ScheduleTargets", spec := "scheduleTargets", inPlace := ["internal/abi.NoEscape"], unfollowed := true, recurses := true, named := ["sawmill/schedule.words", "internal/strconv.uint64pow10", "math/bits.deBruijn32tab", "math/bits.deBruijn64tab"], apart := false, laid := [("math/bits.deBruijn32tab", laid_math_bits_deBruijn32tab), ("math/bits.deBruijn64tab", laid_math_bits_deBruijn64tab), ("internal/strconv.uint64pow10", laid_internal_strconv_uint64pow10), ("sawmill/schedule.words", laid_sawmill_schedule_words)], narrowed := true }
def ScheduleTargetsUptoSaid : Prop := scheduleTargetsUptoRow.holds Tryd.pinned (OpenSpec.upto scheduleTargetsSpec)

/-- 'sawmilllaw37.SchedulePrinted', WHERE WHAT IT READS IS OF BULK AT MOST 1048576: true; the input reads as it did. -/
def schedulePrintedUptoRow : OpenClaim := { program := "ytabdlldkkcjppaadoor", sum := "741e0867aedb18b946555492fefca8613820547bf29078ec0bc655329ae29b47", func := "sawmill/sawmilllaw37.SchedulePrinted", spec := "schedulePrinted", inPlace := ["internal/abi.NoEscape"], unfollowed := true, recurses := true, named := ["sawmill/schedule.words", "internal/strconv.uint64pow10", "math/bits.deBruijn32tab", "math/bits.deBruijn64tab"], apart := false, laid := [("math/bits.deBruijn32tab", laid_math_bits_deBruijn32tab), ("math/bits.deBruijn64tab", laid_math_bits_deBruijn64tab), ("internal/strconv.uint64pow10", laid_internal_strconv_uint64pow10), ("sawmill/schedule.words", laid_sawmill_schedule_words)], narrowed := true }
def SchedulePrintedUptoSaid : Prop := schedulePrintedUptoRow.holds Tryd.pinned (OpenSpec.upto schedulePrintedSpec)

end Rows
end Go.Proofs.YtabdlldkkcjppaaDoor
