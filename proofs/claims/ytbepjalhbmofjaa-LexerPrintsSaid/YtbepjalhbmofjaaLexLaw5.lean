/-
  LexerPrints: the arguments opened, and the walk.
-/
import Derived.Test.YtbepjalhbmofjaaLexLaw4
namespace Go.Proofs.Ytbepjalhbmofjaa
open Go.ChangeShapes Go.WideShapes Go.ChangeAt Go.RowKit Saw

/-- The lexemes of a row of four cells. -/
theorem row_lx {H : Type} {enc : TypeId × Value → H} {w : World} {spare : Nat → Bool} {held : Bool} {n : Nat} {r : List Value} {y : DataW H × List MemPlace}
    (h : DataW.trod enc Try.prog w 0 spare held n 32 r = some y) : ∃ x : Lx, r = lxCells x ∧ x.text.length ≤ maxLen := by
  obtain ⟨hlen, m, hf⟩ := row_fields Try.underlying32 (by kernel_rfl) (by kernel_rfl) h
  match r, hlen with
  | [c0, c1, c2, c3], _ =>
    obtain ⟨d0, z0, k0, z0'⟩ := hf 0 _ rfl
    obtain ⟨d1, z1, k1, z1'⟩ := hf 1 _ rfl
    obtain ⟨d2, z2, k2, z2'⟩ := hf 2 _ rfl
    obtain ⟨d3, z3, k3, z3'⟩ := hf 3 _ rfl
    obtain ⟨a0, e0, _, _⟩ := DataW.trod_int Try.underlying3 z0'
    obtain ⟨a1, e1, _, hs⟩ := DataW.trod_string Try.underlying9 z1'
    obtain ⟨a2, e2, _, _⟩ := DataW.trod_int Try.underlying3 z2'
    obtain ⟨a3, e3, _, _⟩ := DataW.trod_int Try.underlying3 z3'
    simp only [List.getElem?_cons_zero, List.getElem?_cons_succ, Option.some.injEq, List.cons.injEq, and_true] at k0 k1 k2 k3 e0 e1 e2 e3
    subst e0 e1 e2 e3 k0 k1 k2 k3
    exact ⟨⟨a0, bts a1, a2, a3⟩, by simp [lxCells, str_bts], by rw [← size_bts]; exact hs⟩

theorem rows_lxs : ∀ rows : List (List Value), (∀ r ∈ rows, ∃ x : Lx, r = lxCells x ∧ x.text.length ≤ maxLen) → ∃ l : List Lx, l.length = rows.length ∧ rows.flatten = lxsCells l ∧ ∀ x ∈ l, x.text.length ≤ maxLen
  | [], _ => ⟨[], rfl, rfl, by simp⟩
  | r :: rows, h => by
    obtain ⟨x, hx, hm⟩ := h r (by simp)
    obtain ⟨l, h1, h2, h3⟩ := rows_lxs rows (fun r hr => h r (by simp [hr]))
    refine ⟨x :: l, by simp [h1], by rw [List.flatten_cons, h2, hx]; rfl, ?_⟩
    intro y hy
    rcases List.mem_cons.1 hy with rfl | hy
    · exact hm
    · exact h3 y hy

theorem open_lxs {H : Type} {enc : TypeId × Value → H} {W : World} {r : Reach} {b0 : Nat} {v : Value} {d : DataW H} {p : List MemPlace} (_hv : Value.okWide Try.prog W r b0 23 v)
    (h : DataW.Trod enc Try.prog W 0 (fun _ => true) true 23 v d p) :
    ∃ (A : Option Addr) (n c : Nat) (l : List Lx), v = .slice A n c ∧ (RdLx W (.slice A n c) l ∧ ∀ x ∈ l, x.text.length ≤ maxLen) := by
  obtain ⟨a, len, cap, rfl⟩ := okWide_slice Try.underlying23 _hv
  obtain ⟨fuel, hf⟩ := h
  obtain ⟨rows, A, c, hv, hrows, hrd⟩ := open_rows Try.underlying23 (show Try.prog.cellsOf 32 = 4 by kernel_rfl) (by decide) hf
  obtain ⟨l, h1, h2, h3⟩ := rows_lxs rows (fun r hr => by obtain ⟨_, n, y, hy⟩ := hrows r hr; exact row_lx hy)
  refine ⟨a, len, cap, l, rfl, ?_, h3⟩
  rw [h2, ← h1] at hrd
  exact hrd

theorem drew_below {w w' : World} {k : Nat} (h : w' = w.drewN k) : Below w.heap.size w w' := h ▸ below_drewN (Below.refl _ _) k

set_option maxRecDepth 100000 in
set_option maxHeartbeats 1000000 in
theorem lexerPrints_walk (A : Option Addr) (n c : Nat) (l : List Lx) (A' : Option Addr) (n' c' : Nat) (l' : List Lx) (w : World) (h : RdLx w (.slice A n c) l ∧ ∀ x ∈ l, x.text.length ≤ maxLen) (h' : RdLx w (.slice A' n' c') l' ∧ ∀ x ∈ l', x.text.length ≤ maxLen) :
    Calls Try.prog 4 #[.slice A n c, .slice A' n' c'] w fun e w' => e = .returned (.bool true) ∧ Below w.heap.size w w' := by
  obtain ⟨hr, hx⟩ := h
  obtain ⟨hr', hx'⟩ := h'
  unfold maxLen at hx hx'
  have HR := Lib.hid hr
  have HR' := Lib.hid hr'
  have HX := Lib.hid (show ∀ x ∈ l, x.text.length ≤ 9223372036854775807 from hx)
  have HX' := Lib.hid (show ∀ x ∈ l', x.text.length ≤ 9223372036854775807 from hx')
  clear hr hr' hx hx'
  cases hg : greatP l
  · cases hg' : greatP l'
    · have hsm : ∀ x ∈ l, x.text.length ≤ 200 := by
        intro x hx
        rw [greatP, Bool.or_eq_false_iff] at hg
        have := List.any_eq_false.1 hg.1 x hx
        simp at this; omega
      have hln : l.length ≤ 60 := by
        rw [greatP, Bool.or_eq_false_iff] at hg
        have := hg.2
        simp at this; omega
      have hpl : (printP l).length ≤ 140737488355328 := by
        have := printed_le l hsm
        rw [printP]; omega
      have htt : ((str (printP l)).toList == (str (printP l)).toList) = true := by simp
      have HSM := Lib.hid hsm
      have HG := Lib.hid hg
      have HG' := Lib.hid hg'
      obtain ⟨t, ht⟩ : ∃ t, str (printP l) = t := ⟨_, rfl⟩
      rw [ht] at htt
      have HT := Lib.hid ht
      obtain ⟨q, hq⟩ : ∃ q, sameP l l' = q := ⟨_, rfl⟩
      have HQ := Lib.hid hq
      have hqq : (q == q) = true := by simp
      clear hsm hg hg' ht hq
      go_enter Try.func4, Try.ntmps4
      go_wp2_with fail
      refine (great_any _ _ _ l _ HR.out HX.out).mono ?_
      rintro e w1 ⟨he, rfl⟩
      rw [HG.out] at he
      subst he
      go_wp2_with fail
      refine (great_any _ _ _ l' _ HR'.out HX'.out).mono ?_
      rintro e w1 ⟨he, rfl⟩
      rw [HG'.out] at he
      subst he
      go_wp2_with fail
      refine (print_any _ _ _ l _ HR.out (by omega) hpl).mono ?_
      rintro e w1 ⟨he, hb1⟩
      rw [HT.out] at he
      subst he
      have HR1 := Lib.hid (HR.out.next hb1)
      have HR1' := Lib.hid (HR'.out.next hb1)
      have HB1 := Lib.hid hb1
      clear hb1
      go_wp2_with fail
      refine (refPrint_any _ _ _ l _ HR1.out HSM.out hln).mono ?_
      rintro e w2 ⟨he, rfl⟩
      rw [HT.out] at he
      subst he
      go_wp2_with fail
      refine (same_any _ _ _ _ _ _ l l' _ HR1.out HR1'.out).mono ?_
      rintro e w2 ⟨he, hb2⟩
      rw [HQ.out] at he
      subst he
      have HR2 := Lib.hid (HR1.out.next hb2)
      have HR2' := Lib.hid (HR1'.out.next hb2)
      have HB2 := Lib.hid (HB1.out.trans (hb2.mono HB1.out.size))
      clear hb2
      go_wp2_with fail
      refine (refSame_any _ _ _ _ _ _ l l' _ HR2.out HR2'.out).mono ?_
      rintro e w3 ⟨he, nd, hw3⟩
      rw [HQ.out] at he
      subst he
      have hb3 := drew_below hw3
      clear hw3
      have HR3 := Lib.hid (HR2.out.next hb3)
      have HB3 := Lib.hid (HB2.out.trans (hb3.mono HB2.out.size))
      clear hb3
      go_wp2_with fail
      refine (same_any _ _ _ _ _ _ l l _ HR3.out HR3.out).mono ?_
      rintro e w4 ⟨he, hb4⟩
      rw [same_refl] at he
      subst he
      have HB4 := Lib.hid (HB3.out.trans (hb4.mono HB3.out.size))
      clear hb4
      go_wp2_with fail
      refine (awake_any _).mono ?_
      rintro e w5 ⟨rfl, hb5⟩
      have HB5 := Lib.hid (HB4.out.trans (hb5.mono HB4.out.size))
      clear hb5
      go_wp2_with fail
      go_ret
      exact ⟨rfl, HB5.out⟩
    · have HG := Lib.hid hg
      have HG' := Lib.hid hg'
      clear hg hg'
      go_enter Try.func4, Try.ntmps4
      go_wp2_with fail
      refine (great_any _ _ _ l _ HR.out HX.out).mono ?_
      rintro e w1 ⟨he, rfl⟩
      rw [HG.out] at he
      subst he
      go_wp2_with fail
      refine (great_any _ _ _ l' _ HR'.out HX'.out).mono ?_
      rintro e w1 ⟨he, rfl⟩
      rw [HG'.out] at he
      subst he
      go_wp2_with fail
      refine (awake_any _).mono ?_
      rintro e w5 ⟨rfl, hb5⟩
      go_wp2_with fail
      go_ret
      exact ⟨rfl, hb5⟩
  · have HG := Lib.hid hg
    clear hg
    go_enter Try.func4, Try.ntmps4
    go_wp2_with fail
    refine (great_any _ _ _ l _ HR.out HX.out).mono ?_
    rintro e w1 ⟨he, rfl⟩
    rw [HG.out] at he
    subst he
    go_wp2_with fail
    refine (awake_any _).mono ?_
    rintro e w5 ⟨rfl, hb5⟩
    go_wp2_with fail
    go_ret
    exact ⟨rfl, hb5⟩

end Go.Proofs.Ytbepjalhbmofjaa
