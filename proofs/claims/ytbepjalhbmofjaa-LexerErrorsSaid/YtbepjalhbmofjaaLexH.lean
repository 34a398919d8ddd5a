/-
  The contract of the lexer's function Print.
-/
import Derived.Test.YtbepjalhbmofjaaLexG
namespace Go.Proofs.Ytbepjalhbmofjaa
open Go.RowKit Saw

/-- A slice of strings that the call owns, from a block on. -/
def OwnsStr (w : World) (base : Nat) (v : Value) (l : List (List UInt8)) : Prop := w.ownsRow base 9 1 v l.length (l.map fun x => .string (str x))

theorem info_str : (Try.prog.info? 9).map (fun i => (i.zero, i.size, i.bytes)) = some (some (.string ⟨#[]⟩), 1, 16) := by kernel_rfl

theorem cell_new1 (w : World) (t : TypeId) (c0 : Value) (j : Nat) (u : Value) (h : [c0][j]? = some u) :
    (w.alloc (.cells #[c0] t)).cell? ((⟨w.heap.size, 0, none⟩ : Addr).add j) = some u := by
  have hadd : (⟨w.heap.size, 0, none⟩ : Addr).add j = ⟨w.heap.size, j, none⟩ := by unfold Addr.add; split <;> simp_all
  rw [hadd, World.cell?_alloc_at _ _ _ _ rfl, ← h]
  simp

/-- One string appended to a row of the call's own. -/
theorem append_str {ops : Array Oper} {rest : List Oper} {o : Oper} {a : Act} {Q : Exit → Act → World → Prop} (W : World) (hgd : o.guard = none) (s x : Operand)
    (ho : o.op = .call { callee := .builtin .append, args := #[s, x], argTypes := #[41, 41] })
    (base : Nat) (v : Value) (l : List (List UInt8)) (hs : a.eval s = v) (hown : OwnsStr W base v l) (hl : l.length ≤ 100000) (hbase : base ≤ W.heap.size)
    (y : List UInt8) (t : ByteArray) (hx : a.eval x = .slice (some ⟨W.heap.size, 0, none⟩) 1 1) (hy : t = str y)
    (h : ∀ v' w', OwnsStr w' base v' (l ++ [y]) → W.grownBy w' v.ownBlock → wpList Try.prog ops Q rest (a.put o.dst v') w') :
    wpList Try.prog ops Q (o :: rest) a (W.alloc (.cells #[.string t] 9)) := by
  obtain ⟨i0, hi, hz0, hz1, hz2⟩ := info_parts info_str
  refine wpList_append_own _ hgd s x 41 ho base 9 i0 _ 1 16 Try.underlying41 hi hz0 hz1 hz2 rfl (by decide) v l.length (l.map fun x => .string (str x)) hs (World.ownsRow.alloc hown _) ⟨W.heap.size, 0, none⟩ 1 1
    [.string t] hx rfl (cell_new1 W _ _) (by simp [Value.oneCell']) (by simp only [maxLen]; omega) (by omega) (by rw [World.size_alloc]; omega) ?_
  intro v' w' hown' hg _
  refine h v' w' ?_ ?_
  · unfold OwnsStr
    rw [List.length_append, List.map_append]
    rw [hy] at hown'
    exact hown'
  · exact ⟨hg.os, hg.tape, hg.output, by have := hg.size; rw [World.size_alloc] at this; omega, fun i hi hne => (hg.block i (by rw [World.size_alloc]; omega) hne).trans (Below.heap_alloc W _ i hi)⟩

theorem own_fresh {wr : World} {base : Nat} {v : Value} {l : List (List UInt8)} (h : OwnsStr wr base v l) (o : Obj) : OwnsStr (wr.alloc o) base v l := World.ownsRow.alloc h o

theorem join_any (w : World) (base : Nat) (v : Value) (l : List (List UInt8)) (hown : OwnsStr w base v l) (hl : l.length ≤ 100000) (hlen : (Lib.join l [32]).length ≤ 140737488355328) :
    Calls Try.prog 29 #[v, .string ⟨#[32]⟩] w fun e w' => e = .returned (.string (str (Lib.join l [32]))) ∧ Below w.heap.size w w' := by
  by_cases hn : l = []
  · subst hn
    obtain ⟨_, h2⟩ := hown
    rcases h2 with ⟨rfl, _⟩ | ⟨g, cap, cur, rfl, _⟩
    · refine (Try.strings_Join_none _ _ _ _).mono ?_
      rintro e w' ⟨rfl, rfl⟩
      exact ⟨rfl, Below.refl _ _⟩
    · refine (Try.strings_Join_none _ _ _ _).mono ?_
      rintro e w' ⟨rfl, rfl⟩
      exact ⟨rfl, Below.refl _ _⟩
  · have hpos : 0 < l.length := List.length_pos_iff.2 hn
    obtain ⟨h1, _, A, c, rfl, hc, h3⟩ := Rd.of_own hown
    obtain ⟨b, off, rfl, hb, hcell⟩ := h3 hpos
    have e1 : (l.map str).map (fun x => x.data.toList) = l := by
      rw [List.map_map]
      conv => rhs; rw [← List.map_id l]
      apply List.map_congr_left
      intro x _
      exact bts_str x
    have hj := Try.strings_Join b off c (l.map str) ⟨#[32]⟩ w (by
      intro j x hx
      refine hcell j _ ?_
      rw [List.getElem?_map] at hx ⊢
      cases hy : l[j]? with
      | none => rw [hy] at hx; cases hx
      | some y => rw [hy] at hx; injection hx with hx; subst hx; rfl) hb (by rw [List.length_map]; omega) (by rw [List.length_map]; exact hc) (by rw [e1]; exact hlen)
    rw [List.length_map, e1] at hj
    exact hj.mono fun e w' ⟨he, hb⟩ => ⟨he, hb⟩

set_option maxHeartbeats 400000 in
theorem print_any (A : Option Addr) (n c : Nat) (l : List Lx) (w : World) (h : RdLx w (.slice A n c) l) (hl : l.length ≤ 100000) (hlen : (printP l).length ≤ 140737488355328) :
    Calls Try.prog 15 #[.slice A n c] w fun e w' => e = .returned (.string (str (printP l))) ∧ Below w.heap.size w w' := by
  obtain ⟨_, _, he, hc, hm⟩ := h.form
  obtain rfl : n = l.length := by injection he
  clear he
  unfold maxLen at hm
  have H := Lib.hid h
  clear h
  go_enter Try.func15, Try.ntmps15
  go_wp2_with fail
  go_loopw [3, 8] (fun v i wr => ∃ k : Nat, k ≤ l.length ∧ i = .int .i64 k ∧ Below w.heap.size w wr ∧ OwnsStr wr w.heap.size v (texts (l.take k))) (fun _ i _ => l.length - (intOf i).toNat)
  case atStart => exact ⟨0, by omega, rfl, Below.refl _ _, World.ownsRow_nil _ _ _ _⟩
  case round =>
    obtain ⟨k, hk, rfl, hbw, hown⟩ := hrel
    have HOWN := Lib.hid hown
    clear hown
    by_cases hlt : k < l.length
    · obtain ⟨x, hx⟩ : ∃ x, l[k]? = some x := ⟨_, List.getElem?_eq_getElem hlt⟩
      obtain ⟨b, off, rfl, hb1, q0, q1, q2, q3⟩ := rdlx_at (H.out.below hbw) hx
      have hb1' : b < wr.heap.size := Nat.lt_of_lt_of_le hb1 hbw.size
      have hts : texts (l.take (k + 1)) = texts (l.take k) ++ (if (x.kind != 0) = true then [x.text] else []) := by
        rw [List.take_add_one, hx, Option.toList_some, texts_snoc]
      have htl := texts_len (l.take k)
      rw [List.length_take] at htl
      have HX := Lib.hid hx
      have HTS := Lib.hid hts
      clear hx hts
      cases hk0 : (x.kind != 0)
      · go_wp2_with fail
        refine ⟨⟨k + 1, by omega, by go_num, hbw.alloc hbw.size _, ?_⟩, by simp [intOf]; omega⟩
        rw [HTS.out, hk0, if_neg (by decide), List.append_nil]
        exact own_fresh HOWN.out _
      · have hown1 : OwnsStr (wr.alloc (.cells #[.int .i64 x.kind, .string (str x.text), .int .i64 x.num, .int .i64 x.off] 32)) w.heap.size u3 (texts (l.take k)) := own_fresh HOWN.out _
        have HOWN1 := Lib.hid hown1
        clear hown1
        go_wp2_with (at_builtin; refine append_str (wr.alloc (.cells #[.int .i64 x.kind, .string (str x.text), .int .i64 x.num, .int .i64 x.off] 32)) rfl (.tmp 15) (.tmp 18) rfl w.heap.size u3 (texts (l.take k)) rfl HOWN1.out (by omega) (by have := hbw.size; rw [World.size_alloc]; omega) x.text (str x.text) (by rw [World.size_alloc]; rfl) rfl ?_; intro v2 w2 hown2 hg2; have HOWN2 := Lib.hid hown2; have HG2 := Lib.hid hg2; clear hown2 hg2)
        refine ⟨⟨k + 1, by omega, by go_num, ?_, ?_⟩, by simp [intOf]; omega⟩
        · exact (hbw.alloc hbw.size _).grown HG2.out (by have := hbw.size; rw [World.size_alloc]; omega) (fun b hb => (HOWN.out.lt b hb).1)
        · rw [HTS.out, hk0, if_pos rfl]
          exact HOWN2.out
    · have htl := texts_len l
      have hown1 := HOWN.out
      rw [List.take_of_length_le (by omega)] at hown1
      have HOWN1 := Lib.hid hown1
      clear hown1
      go_wp2_with fail
      refine (join_any _ _ _ (texts l) HOWN1.out (by omega) hlen).mono ?_
      rintro e w2 ⟨rfl, hbw2⟩
      go_wp2_with fail
      go_ret
      exact ⟨rfl, hbw.trans (hbw2.mono hbw.size)⟩

end Go.Proofs.Ytbepjalhbmofjaa
