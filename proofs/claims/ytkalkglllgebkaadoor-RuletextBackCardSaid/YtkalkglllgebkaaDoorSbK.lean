/-
  strings.Builder and strconv.Itoa, in the words of these proofs.
-/
import Derived.Test.YtkalkglllgebkaaDoorSb
import Derived.Test.YtkalkglllgebkaaDoorShelf
import Derived.Test.YtkalkglllgebkaaDoorPlainA
import Derived.Test.YtkalkglllgebkaaDoorBig
import Derived.Lib.AppendIntMem
import Derived.WalkSmall
namespace Go.Proofs.YtkalkglllgebkaaDoor
open Go.RowKit Saw

theorem sbExtra : Builder.Extra Tryd.prog sbRen := {
  sizeBuilder := by kernel_rfl
  liesBuilder := by kernel_rfl
  t5 := Tryd.underlying5
  a5 := Tryd.isAgg5
  z5 := Tryd.sizeOf5
  v5 := Tryd.zeroValue5
  infoByte := by kernel_rfl
  cellsByte := by kernel_rfl
  sizeByte := by kernel_rfl
  neB5 := by decide }

/-- The builder in block b holds the bytes l. -/
def IsSb (w : World) (B b : Nat) (l : List UInt8) : Prop := Lib.IsBuilderF 76 5 B b (Lib.byteCells l) w
/-- Blocks of other make stand as they stood. -/
def OtherB (b : Nat) (w w' : World) : Prop := Lib.OthersKept 5 (some b) w w'

def WritePost (B b : Nat) (l : List UInt8) (s : ByteArray) (w : World) (e : Ending) (w' : World) : Prop :=
  e = .returned (.tuple #[.int .i64 s.size, .nilIface]) ∧ IsSb w' B b (l ++ bts s) ∧ Below B w w' ∧ OtherB b w w'
theorem sb_write (B b : Nat) (l : List UInt8) (s : ByteArray) (w : World) (h : IsSb w B b l) (hlen : l.length + s.size ≤ 100000000000) (hBw : B ≤ w.heap.size) :
    Calls Tryd.prog 42 #[.pointer (some ⟨b, 0, none⟩), .string s] w (WritePost B b l s w) := by
  refine (Any.Builder_WriteString_k sbLays sbExtra B b (Lib.byteCells l) s w h (by rw [Lib.byteCells_length]; omega) hBw).mono ?_
  rintro e w' ⟨he, h1, h2, h3⟩
  refine ⟨he, .inr ?_, h2, h3⟩
  rw [Lib.byteCells_append]
  exact h1
def StringPost (B _b : Nat) (l : List UInt8) (w : World) (e : Ending) (w' : World) : Prop := e = .returned (.string (str l)) ∧ Below B w w'
theorem sb_string (B b : Nat) (l : List UInt8) (w : World) (h : IsSb w B b l) (hBw : B ≤ w.heap.size) :
    Calls Tryd.prog 45 #[.pointer (some ⟨b, 0, none⟩)] w (StringPost B b l w) := by
  refine (Tryd.Builder_String_any_k B b l w h hBw).mono ?_
  rintro e w' ⟨he, _, h2, _⟩
  exact ⟨he, h2⟩
theorem sb_new (w : World) (B : Nat) (hB : B ≤ w.heap.size) : IsSb (w.alloc (.cells #[.pointer none, .slice none 0 0] 76)) B w.heap.size [] :=
  .inl ⟨hB, .slice none 0 0, heap_alloc_last w _, World.ownsRowF_of (World.ownsRow_nil _ _ _ _), nofun⟩
theorem IsSb.below {w w' : World} {B b : Nat} {l : List UInt8} (h : IsSb w B b l) (hb : Below w.heap.size w w') : IsSb w' B b l := by
  have key : ∀ p, Lib.BuilderAtF 76 5 B b p (Lib.byteCells l) w → Lib.BuilderAtF 76 5 B b p (Lib.byteCells l) w' := by
    rintro p ⟨h1, v, h2, h3, h4⟩
    exact ⟨h1, v, (hb.block b (Array.getElem?_eq_some_iff.1 h2).1).trans h2, h3.kept (row := none) ⟨hb.os, hb.tape, hb.output, hb.size, fun k hk _ => hb.block k hk⟩ (Classical.em _), h4⟩
  exact h.elim (fun x => .inl (key _ x)) (fun x => .inr (key _ x))
theorem IsSb.lt {w : World} {B b : Nat} {l : List UInt8} (h : IsSb w B b l) : b < w.heap.size ∧ B ≤ b := by
  rcases h with ⟨h1, v, h2, _⟩ | ⟨h1, v, h2, _⟩
  · exact ⟨(Array.getElem?_eq_some_iff.1 h2).1, h1⟩
  · exact ⟨(Array.getElem?_eq_some_iff.1 h2).1, h1⟩

/-- The table that Itoa reads. -/
def Pow (w : World) : Prop := Lib.TabIs Tryd.prog w "internal/strconv.uint64pow10" .u64 Lib.pow10Tab
theorem Pow.below {w w' : World} {B : Nat} (h : Pow w) (hb : Below B w w') (hB : 1 < B) : Pow w' :=
  var?_below hb (by kernel_rfl) hB h
theorem itoa_any (n : Int) (w : World) (h0 : -9223372036854775808 ≤ n) (h1 : n ≤ 9223372036854775807) (hp : Pow w) :
    Calls Tryd.prog 43 #[.int .i64 n] w fun e w' => e = .returned (.string (str (Lib.itoa n))) ∧ Below w.heap.size w w' := by
  refine (Tryd.strconv_Itoa n h0 h1 w hp).mono ?_
  rintro e w' ⟨he, k, os, rfl⟩
  exact ⟨he, Lib.below_grow _ _ (Nat.le_refl _) _ _⟩

end Go.Proofs.YtkalkglllgebkaaDoor
