/-
  Rows of strings of the call's own; strings.Join.
-/
import Derived.Test.YtokgonpeolppnaaDoorBase
import Derived.Test.YtokgonpeolppnaaDoorBig
import Derived.Test.YtokgonpeolppnaaDoorShelf
import Derived.OwnWalk
namespace Go.Proofs.YtokgonpeolppnaaDoor
open Go.RowKit Saw

/-- A slice of strings that the call owns, from a block on. -/
def OwnsStr (w : World) (base : Nat) (v : Value) (l : List (List UInt8)) : Prop := w.ownsRow base 9 1 v l.length (l.map fun x => .string (str x))

theorem info_str : (Tryd.prog.info? 9).map (fun i => (i.zero, i.size, i.bytes)) = some (some (.string ⟨#[]⟩), 1, 16) := by kernel_rfl

theorem cell_new1 (w : World) (t : TypeId) (c0 : Value) (j : Nat) (u : Value) (h : [c0][j]? = some u) :
    (w.alloc (.cells #[c0] t)).cell? ((⟨w.heap.size, 0, none⟩ : Addr).add j) = some u := by
  have hadd : (⟨w.heap.size, 0, none⟩ : Addr).add j = ⟨w.heap.size, j, none⟩ := by unfold Addr.add; split <;> simp_all
  rw [hadd, World.cell?_alloc_at _ _ _ _ rfl, ← h]
  simp

/-- One string appended to a row of the call's own. -/
theorem append_str {ops : Array Oper} {rest : List Oper} {o : Oper} {a : Act} {Q : Exit → Act → World → Prop} (W : World) (hgd : o.guard = none) (s x : Operand)
    (ho : o.op = .call { callee := .builtin .append, args := #[s, x], argTypes := #[77, 77] })
    (base : Nat) (v : Value) (l : List (List UInt8)) (hs : a.eval s = v) (hown : OwnsStr W base v l) (hl : l.length ≤ 100000) (hbase : base ≤ W.heap.size)
    (y : List UInt8) (t : ByteArray) (hx : a.eval x = .slice (some ⟨W.heap.size, 0, none⟩) 1 1) (hy : t = str y)
    (h : ∀ v' w', OwnsStr w' base v' (l ++ [y]) → W.grownBy w' v.ownBlock → wpList Tryd.prog ops Q rest (a.put o.dst v') w') :
    wpList Tryd.prog ops Q (o :: rest) a (W.alloc (.cells #[.string t] 9)) := by
  obtain ⟨i0, hi, hz0, hz1, hz2⟩ := info_parts info_str
  refine wpList_append_own _ hgd s x 77 ho base 9 i0 _ 1 16 Tryd.underlying77 hi hz0 hz1 hz2 rfl (by decide) v l.length (l.map fun x => .string (str x)) hs (World.ownsRow.alloc hown _) ⟨W.heap.size, 0, none⟩ 1 1
    [.string t] hx rfl (cell_new1 W _ _) (by simp [Value.oneCell']) (by simp only [maxLen]; omega) (by omega) (by rw [World.size_alloc]; omega) ?_
  intro v' w' hown' hg _
  refine h v' w' ?_ ?_
  · unfold OwnsStr
    rw [List.length_append, List.map_append]
    rw [hy] at hown'
    exact hown'
  · exact ⟨hg.os, hg.tape, hg.output, by have := hg.size; rw [World.size_alloc] at this; omega, fun i hi hne => (hg.block i (by rw [World.size_alloc]; omega) hne).trans (Below.heap_alloc W _ i hi)⟩

theorem own_fresh {wr : World} {base : Nat} {v : Value} {l : List (List UInt8)} (h : OwnsStr wr base v l) (o : Obj) : OwnsStr (wr.alloc o) base v l := World.ownsRow.alloc h o

theorem join_any (w : World) (base : Nat) (v : Value) (l : List (List UInt8)) (hown : OwnsStr w base v l) (hl : l.length ≤ 100000) (hlen : (Lib.join l [32]).length ≤ 140737488355328) :
    Calls Tryd.prog 48 #[v, .string ⟨#[32]⟩] w fun e w' => e = .returned (.string (str (Lib.join l [32]))) ∧ Below w.heap.size w w' := by
  by_cases hn : l = []
  · subst hn
    obtain ⟨_, h2⟩ := hown
    rcases h2 with ⟨rfl, _⟩ | ⟨g, cap, cur, rfl, _⟩
    · refine (Tryd.strings_Join_none _ _ _ _).mono ?_
      rintro e w' ⟨rfl, rfl⟩
      exact ⟨rfl, Below.refl _ _⟩
    · refine (Tryd.strings_Join_none _ _ _ _).mono ?_
      rintro e w' ⟨rfl, rfl⟩
      exact ⟨rfl, Below.refl _ _⟩
  · have hpos : 0 < l.length := List.length_pos_iff.2 hn
    obtain ⟨h1, _, A, c, rfl, hc, h3⟩ := Rd.of_own hown
    obtain ⟨b, off, rfl, hb, hcell⟩ := h3 hpos
    have e1 : (l.map str).map (fun x => x.data.toList) = l := by
      rw [List.map_map]
      conv => rhs; rw [← List.map_id l]
      apply List.map_congr_left
      intro x _
      exact bts_str x
    have hj := Tryd.strings_Join b off c (l.map str) ⟨#[32]⟩ w (by
      intro j x hx
      refine hcell j _ ?_
      rw [List.getElem?_map] at hx ⊢
      cases hy : l[j]? with
      | none => rw [hy] at hx; cases hx
      | some y => rw [hy] at hx; injection hx with hx; subst hx; rfl) hb (by rw [List.length_map]; omega) (by rw [List.length_map]; exact hc) (by rw [e1]; exact hlen)
    rw [List.length_map, e1] at hj
    exact hj.mono fun e w' ⟨he, hb⟩ => ⟨he, hb⟩

end Go.Proofs.YtokgonpeolppnaaDoor
