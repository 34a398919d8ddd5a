/-
  strings.Builder's WriteString and String, strconv.Itoa: the shelf's contracts, laid at this program by hand.
  strings.Builder and strconv.Itoa, in the words of these proofs.
  Strings put together.
  Rows of strings of the call's own; strings.Join.
-/
import Derived.Test.YtbmcfodhjibooaaDoorProg
import Derived.Shelf.Strings.BuilderK
import Derived.Shelf.Strconv.Itoa3
import Derived.Test.YtbmcfodhjibooaaDoorShelf
import Derived.Test.YtbmcfodhjibooaaDoorPlainA
import Derived.Test.YtbmcfodhjibooaaDoorBig
import Derived.Lib.AppendIntMem
import Derived.WalkSmall
import Derived.Test.YtbmcfodhjibooaaDoorBase
import Derived.OwnWalk
namespace Go.Proofs.YtbmcfodhjibooaaDoor
open Go.Shelf

def sbRen : Go.Shelf.Ren := ⟨fun | 166 => 87 | 240 => 106 | 276 => 113 | n => n,
  fun | 0 => 0 | 3 => 3 | 4 => 4 | 5 => 5 | 9 => 9 | 20 => 20 | 37 => 135 | 70 => 134 | 72 => 137 | 75 => 139 | 80 => 142 | 164 => 163 | n => n, fun | n => n⟩
theorem sbLays : Go.Proofs.Lays.n166 Tryd.prog sbRen := {
  mixed := by kernel_rfl
  f166 := Tryd.func87.trans (congrArg some (by kernel_rfl))
  f240 := Tryd.func106.trans (congrArg some (by kernel_rfl))
  f276 := Tryd.func113.trans (congrArg some (by kernel_rfl))
  t0 := Tryd.underlying0
  a0 := Tryd.isAgg0
  z0 := Tryd.sizeOf0
  v0 := Tryd.zeroValue0
  t3 := Tryd.underlying3
  a3 := Tryd.isAgg3
  z3 := Tryd.sizeOf3
  v3 := Tryd.zeroValue3
  t4 := Tryd.underlying4
  a4 := Tryd.isAgg4
  z4 := Tryd.sizeOf4
  v4 := Tryd.zeroValue4
  t9 := Tryd.underlying9
  a9 := Tryd.isAgg9
  z9 := Tryd.sizeOf9
  v9 := Tryd.zeroValue9
  t20 := Tryd.underlying20
  a20 := Tryd.isAgg20
  z20 := Tryd.sizeOf20
  v20 := Tryd.zeroValue20
  t37 := Tryd.underlying135
  a37 := Tryd.isAgg135
  z37 := Tryd.sizeOf135
  v37 := Tryd.zeroValue135
  t70 := Tryd.underlying134
  a70 := Tryd.isAgg134
  z70 := Tryd.sizeOf134
  v70 := Tryd.zeroValue134
  t72 := Tryd.underlying137
  a72 := Tryd.isAgg137
  z72 := Tryd.sizeOf137
  v72 := Tryd.zeroValue137
  t75 := Tryd.underlying139
  a75 := Tryd.isAgg139
  z75 := Tryd.sizeOf139
  v75 := Tryd.zeroValue139
  t164 := Tryd.underlying163
  a164 := Tryd.isAgg163
  z164 := Tryd.sizeOf163
  v164 := Tryd.zeroValue163 }

end Go.Proofs.YtbmcfodhjibooaaDoor

namespace Go.Proofs.YtbmcfodhjibooaaDoor
open Go.RowKit Saw

theorem sbExtra : Builder.Extra Tryd.prog sbRen := {
  sizeBuilder := by kernel_rfl
  liesBuilder := by kernel_rfl
  t5 := Tryd.underlying5
  a5 := Tryd.isAgg5
  z5 := Tryd.sizeOf5
  v5 := Tryd.zeroValue5
  infoByte := by kernel_rfl
  cellsByte := by kernel_rfl
  sizeByte := by kernel_rfl
  neB5 := by decide }

/-- The builder in block b holds the bytes l. -/
def IsSb (w : World) (B b : Nat) (l : List UInt8) : Prop := Lib.IsBuilderF 137 5 B b (Lib.byteCells l) w
/-- Blocks of other make stand as they stood. -/
def OtherB (b : Nat) (w w' : World) : Prop := Lib.OthersKept 5 (some b) w w'

def WritePost (B b : Nat) (l : List UInt8) (s : ByteArray) (w : World) (e : Ending) (w' : World) : Prop :=
  e = .returned (.tuple #[.int .i64 s.size, .nilIface]) ∧ IsSb w' B b (l ++ bts s) ∧ Below B w w' ∧ OtherB b w w'
theorem sb_write (B b : Nat) (l : List UInt8) (s : ByteArray) (w : World) (h : IsSb w B b l) (hlen : l.length + s.size ≤ 100000000000) (hBw : B ≤ w.heap.size) :
    Calls Tryd.prog 87 #[.pointer (some ⟨b, 0, none⟩), .string s] w (WritePost B b l s w) := by
  refine (Any.Builder_WriteString_k sbLays sbExtra B b (Lib.byteCells l) s w h (by rw [Lib.byteCells_length]; omega) hBw).mono ?_
  rintro e w' ⟨he, h1, h2, h3⟩
  refine ⟨he, .inr ?_, h2, h3⟩
  rw [Lib.byteCells_append]
  exact h1
def StringPost (B _b : Nat) (l : List UInt8) (w : World) (e : Ending) (w' : World) : Prop := e = .returned (.string (str l)) ∧ Below B w w'
theorem sb_string (B b : Nat) (l : List UInt8) (w : World) (h : IsSb w B b l) (hBw : B ≤ w.heap.size) :
    Calls Tryd.prog 88 #[.pointer (some ⟨b, 0, none⟩)] w (StringPost B b l w) := by
  refine (Tryd.Builder_String_any_k B b l w h hBw).mono ?_
  rintro e w' ⟨he, _, h2, _⟩
  exact ⟨he, h2⟩
theorem sb_new (w : World) (B : Nat) (hB : B ≤ w.heap.size) : IsSb (w.alloc (.cells #[.pointer none, .slice none 0 0] 137)) B w.heap.size [] :=
  .inl ⟨hB, .slice none 0 0, heap_alloc_last w _, World.ownsRowF_of (World.ownsRow_nil _ _ _ _), nofun⟩
theorem IsSb.below {w w' : World} {B b : Nat} {l : List UInt8} (h : IsSb w B b l) (hb : Below w.heap.size w w') : IsSb w' B b l := by
  have key : ∀ p, Lib.BuilderAtF 137 5 B b p (Lib.byteCells l) w → Lib.BuilderAtF 137 5 B b p (Lib.byteCells l) w' := by
    rintro p ⟨h1, v, h2, h3, h4⟩
    exact ⟨h1, v, (hb.block b (Array.getElem?_eq_some_iff.1 h2).1).trans h2, h3.kept (row := none) ⟨hb.os, hb.tape, hb.output, hb.size, fun k hk _ => hb.block k hk⟩ (Classical.em _), h4⟩
  exact h.elim (fun x => .inl (key _ x)) (fun x => .inr (key _ x))
theorem IsSb.lt {w : World} {B b : Nat} {l : List UInt8} (h : IsSb w B b l) : b < w.heap.size ∧ B ≤ b := by
  rcases h with ⟨h1, v, h2, _⟩ | ⟨h1, v, h2, _⟩
  · exact ⟨(Array.getElem?_eq_some_iff.1 h2).1, h1⟩
  · exact ⟨(Array.getElem?_eq_some_iff.1 h2).1, h1⟩

/-- The table that Itoa reads. -/
def Pow (w : World) : Prop := Lib.TabIs Tryd.prog w "internal/strconv.uint64pow10" .u64 Lib.pow10Tab
theorem Pow.below {w w' : World} {B : Nat} (h : Pow w) (hb : Below B w w') (hB : 0 < B) : Pow w' :=
  var?_below hb (by kernel_rfl) hB h
theorem itoa_any (n : Int) (w : World) (h0 : -9223372036854775808 ≤ n) (h1 : n ≤ 9223372036854775807) (hp : Pow w) :
    Calls Tryd.prog 56 #[.int .i64 n] w fun e w' => e = .returned (.string (str (Lib.itoa n))) ∧ Below w.heap.size w w' := by
  refine (Tryd.strconv_Itoa n h0 h1 w hp).mono ?_
  rintro e w' ⟨he, k, os, rfl⟩
  exact ⟨he, Lib.below_grow _ _ (Nat.le_refl _) _ _⟩

end Go.Proofs.YtbmcfodhjibooaaDoor

namespace Go.Proofs.YtbmcfodhjibooaaDoor
open Go.RowKit Saw

theorem bts_append (a b : ByteArray) : bts (a ++ b) = bts a ++ bts b := by
  simp [bts]
theorem str_append (a b : List UInt8) : str a ++ str b = str (a ++ b) := by
  rw [← str_bts (str a ++ str b), bts_append, bts_str, bts_str]
theorem run_cat (a b : ByteArray) (h : a.size + b.size ≤ 1000000000000) (W : World) : (binOp .add 9 (.string a) (.string b)).run Tryd.prog W = .ok (.string (a ++ b)) W := by
  have u9 := Tryd.underlying9
  go_simp
  omega

end Go.Proofs.YtbmcfodhjibooaaDoor

namespace Go.Proofs.YtbmcfodhjibooaaDoor
open Go.RowKit Saw

/-- A slice of strings that the call owns, from a block on. -/
def OwnsStr (w : World) (base : Nat) (v : Value) (l : List (List UInt8)) : Prop := w.ownsRow base 9 1 v l.length (l.map fun x => .string (str x))

theorem info_str : (Tryd.prog.info? 9).map (fun i => (i.zero, i.size, i.bytes)) = some (some (.string ⟨#[]⟩), 1, 16) := by kernel_rfl

theorem cell_new1 (w : World) (t : TypeId) (c0 : Value) (j : Nat) (u : Value) (h : [c0][j]? = some u) :
    (w.alloc (.cells #[c0] t)).cell? ((⟨w.heap.size, 0, none⟩ : Addr).add j) = some u := by
  have hadd : (⟨w.heap.size, 0, none⟩ : Addr).add j = ⟨w.heap.size, j, none⟩ := by unfold Addr.add; split <;> simp_all
  rw [hadd, World.cell?_alloc_at _ _ _ _ rfl, ← h]
  simp

/-- One string appended to a row of the call's own. -/
theorem append_str {ops : Array Oper} {rest : List Oper} {o : Oper} {a : Act} {Q : Exit → Act → World → Prop} (W : World) (hgd : o.guard = none) (s x : Operand)
    (ho : o.op = .call { callee := .builtin .append, args := #[s, x], argTypes := #[97, 97] })
    (base : Nat) (v : Value) (l : List (List UInt8)) (hs : a.eval s = v) (hown : OwnsStr W base v l) (hl : l.length ≤ 100000) (hbase : base ≤ W.heap.size)
    (y : List UInt8) (t : ByteArray) (hx : a.eval x = .slice (some ⟨W.heap.size, 0, none⟩) 1 1) (hy : t = str y)
    (h : ∀ v' w', OwnsStr w' base v' (l ++ [y]) → W.grownBy w' v.ownBlock → wpList Tryd.prog ops Q rest (a.put o.dst v') w') :
    wpList Tryd.prog ops Q (o :: rest) a (W.alloc (.cells #[.string t] 9)) := by
  obtain ⟨i0, hi, hz0, hz1, hz2⟩ := info_parts info_str
  refine wpList_append_own _ hgd s x 97 ho base 9 i0 _ 1 16 Tryd.underlying97 hi hz0 hz1 hz2 rfl (by decide) v l.length (l.map fun x => .string (str x)) hs (World.ownsRow.alloc hown _) ⟨W.heap.size, 0, none⟩ 1 1
    [.string t] hx rfl (cell_new1 W _ _) (by simp [Value.oneCell']) (by simp only [maxLen]; omega) (by omega) (by rw [World.size_alloc]; omega) ?_
  intro v' w' hown' hg _
  refine h v' w' ?_ ?_
  · unfold OwnsStr
    rw [List.length_append, List.map_append]
    rw [hy] at hown'
    exact hown'
  · exact ⟨hg.os, hg.tape, hg.output, by have := hg.size; rw [World.size_alloc] at this; omega, fun i hi hne => (hg.block i (by rw [World.size_alloc]; omega) hne).trans (Below.heap_alloc W _ i hi)⟩

theorem own_fresh {wr : World} {base : Nat} {v : Value} {l : List (List UInt8)} (h : OwnsStr wr base v l) (o : Obj) : OwnsStr (wr.alloc o) base v l := World.ownsRow.alloc h o

theorem join_any (w : World) (base : Nat) (v : Value) (l : List (List UInt8)) (hown : OwnsStr w base v l) (hl : l.length ≤ 100000) (hlen : (Lib.join l [32]).length ≤ 140737488355328) :
    Calls Tryd.prog 58 #[v, .string ⟨#[32]⟩] w fun e w' => e = .returned (.string (str (Lib.join l [32]))) ∧ Below w.heap.size w w' := by
  by_cases hn : l = []
  · subst hn
    obtain ⟨_, h2⟩ := hown
    rcases h2 with ⟨rfl, _⟩ | ⟨g, cap, cur, rfl, _⟩
    · refine (Tryd.strings_Join_none _ _ _ _).mono ?_
      rintro e w' ⟨rfl, rfl⟩
      exact ⟨rfl, Below.refl _ _⟩
    · refine (Tryd.strings_Join_none _ _ _ _).mono ?_
      rintro e w' ⟨rfl, rfl⟩
      exact ⟨rfl, Below.refl _ _⟩
  · have hpos : 0 < l.length := List.length_pos_iff.2 hn
    obtain ⟨h1, _, A, c, rfl, hc, h3⟩ := Rd.of_own hown
    obtain ⟨b, off, rfl, hb, hcell⟩ := h3 hpos
    have e1 : (l.map str).map (fun x => x.data.toList) = l := by
      rw [List.map_map]
      conv => rhs; rw [← List.map_id l]
      apply List.map_congr_left
      intro x _
      exact bts_str x
    have hj := Tryd.strings_Join b off c (l.map str) ⟨#[32]⟩ w (by
      intro j x hx
      refine hcell j _ ?_
      rw [List.getElem?_map] at hx ⊢
      cases hy : l[j]? with
      | none => rw [hy] at hx; cases hx
      | some y => rw [hy] at hx; injection hx with hx; subst hx; rfl) hb (by rw [List.length_map]; omega) (by rw [List.length_map]; exact hc) (by rw [e1]; exact hlen)
    rw [List.length_map, e1] at hj
    exact hj.mono fun e w' ⟨he, hb⟩ => ⟨he, hb⟩

end Go.Proofs.YtbmcfodhjibooaaDoor
