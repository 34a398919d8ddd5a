/-
  The contract of sawmillref34.is.
-/
import Derived.Test.YtadflenmdfcflaaDoorWRefZ
namespace Go.Proofs.YtadflenmdfcflaaDoor
open Go.RowKit Saw Go.Sort

set_option maxHeartbeats 400000 in
theorem refIs_any (x : Lx) (kind : Int) (t : ByteArray) (w : World) :
    Calls Tryd.prog 62 #[.agg #[.int .i64 x.kind, .string (str x.text), .int .i64 x.num, .int .i64 x.off], .int .i64 kind, .string t] w fun e w' => e = .returned (.bool ((x.kind == kind) && (x.text == bts t))) ∧ Below w.heap.size w w' := by
  have hn := str_eq x.text t
  cases hk : (x.kind == kind) with
  | false =>
    go_enter Tryd.func62, Tryd.ntmps62
    go_wp2_with fail
    go_ret
    exact ⟨rfl, (Below.refl _ _).alloc (Nat.le_refl _) _⟩
  | true =>
    obtain ⟨q, hq⟩ : ∃ q, (x.text == bts t) = q := ⟨_, rfl⟩
    rw [hq] at hn ⊢
    clear hq
    go_enter Tryd.func62, Tryd.ntmps62
    go_wp2_with fail
    go_ret
    exact ⟨rfl, (Below.refl _ _).alloc (Nat.le_refl _) _⟩

/-- A slice that owns its numbers, from a block on. -/
def OwnsInt (w : World) (base : Nat) (v : Value) (l : List Int) : Prop := w.ownsRow base 3 1 v l.length (l.map fun n => .int .i64 n)
theorem info_int : (Tryd.prog.info? 3).map (fun i => (i.zero, i.size, i.bytes)) = some (some (.int .i64 0), 1, 8) := by kernel_rfl
theorem cell_new1 (w : World) (t : TypeId) (c0 : Value) (j : Nat) (u : Value) (h : [c0][j]? = some u) :
    (w.alloc (.cells #[c0] t)).cell? ((⟨w.heap.size, 0, none⟩ : Addr).add j) = some u := by
  have hadd : (⟨w.heap.size, 0, none⟩ : Addr).add j = ⟨w.heap.size, j, none⟩ := by unfold Addr.add; split <;> simp_all
  rw [hadd, World.cell?_alloc_at _ _ _ _ rfl, ← h]
  simp

/-- One number appended to a row of the call's own. -/
theorem append_int {ops : Array Oper} {rest : List Oper} {o : Oper} {a : Act} {Q : Exit → Act → World → Prop} (W : World) (hgd : o.guard = none) (s x : Operand)
    (ho : o.op = .call { callee := .builtin .append, args := #[s, x], argTypes := #[63, 63] })
    (base : Nat) (v : Value) (l : List Int) (hs : a.eval s = v) (hown : OwnsInt W base v l) (hl : l.length ≤ 100000) (hbase : base ≤ W.heap.size)
    (y : Int) (hx : a.eval x = .slice (some ⟨W.heap.size, 0, none⟩) 1 1)
    (h : ∀ v' w', OwnsInt w' base v' (l ++ [y]) → W.grownBy w' v.ownBlock → wpList Tryd.prog ops Q rest (a.put o.dst v') w') :
    wpList Tryd.prog ops Q (o :: rest) a (W.alloc (.cells #[.int .i64 y] 3)) := by
  obtain ⟨i0, hi, hz0, hz1, hz2⟩ := info_parts info_int
  refine wpList_append_own _ hgd s x 63 ho base 3 i0 _ 1 8 Tryd.underlying63 hi hz0 hz1 hz2 rfl (by decide) v l.length (l.map fun n => .int .i64 n) hs (World.ownsRow.alloc hown _) ⟨W.heap.size, 0, none⟩ 1 1
    [.int .i64 y] hx rfl (cell_new1 W _ _) (by simp [Value.oneCell']) (by simp only [maxLen]; omega) (by omega) (by rw [World.size_alloc]; omega) ?_
  intro v' w' hown' hg _
  refine h v' w' ?_ ?_
  · unfold OwnsInt
    rw [List.length_append, List.map_append]
    exact hown'
  · exact ⟨hg.os, hg.tape, hg.output, by have := hg.size; rw [World.size_alloc] at this; omega, fun i hi hne => (hg.block i (by rw [World.size_alloc]; omega) hne).trans (Below.heap_alloc W _ i hi)⟩

end Go.Proofs.YtadflenmdfcflaaDoor
