/-
  The contract of the lexer's function Print.
-/
import Derived.Test.YtokgonpeolppnaaDoorLexF
import Derived.Test.YtokgonpeolppnaaDoorShelf
import Derived.Test.YtokgonpeolppnaaDoorStrRow
namespace Go.Proofs.YtokgonpeolppnaaDoor
open Go.RowKit Saw


theorem rdlxK_at {w : World} {B : Nat} {A : Option Addr} {n c : Nat} {l : List Lx} (h : Rd w B 4 (.slice A n c) l.length (lxsCells l)) {i : Nat} {x : Lx} (hx : l[i]? = some x) :
    ∃ b off, A = some ⟨b, off, none⟩ ∧ b < B ∧ w.cell? ⟨b, off + i * 4, none⟩ = some (.int .i64 x.kind) ∧ w.cell? ⟨b, off + i * 4 + 1, none⟩ = some (.string (str x.text)) ∧
      w.cell? ⟨b, off + i * 4 + 2, none⟩ = some (.int .i64 x.num) ∧ w.cell? ⟨b, off + i * 4 + 3, none⟩ = some (.int .i64 x.off) := by
  obtain ⟨_, _, A', c', he, _, h3⟩ := h
  injection he with h1 h2 h4
  subst h1
  have hi : i < l.length := (List.getElem?_eq_some_iff.1 hx).1
  obtain ⟨b, off, rfl, hb, hcell⟩ := h3 (by omega)
  obtain ⟨k0, k1, k2, k3⟩ := lxs_at l i x hx
  exact ⟨b, off, rfl, hb, hcell _ _ k0, hcell _ _ k1, hcell _ _ k2, hcell _ _ k3⟩

set_option maxHeartbeats 400000 in
theorem print_any (A : Option Addr) (n c : Nat) (l : List Lx) (w : World) (h : RdLx w (.slice A n c) l) (hl : l.length ≤ 100000) (hlen : (printP l).length ≤ 140737488355328) :
    Calls Tryd.prog 29 #[.slice A n c] w fun e w' => e = .returned (.string (str (printP l))) ∧ Below w.heap.size w w' := by
  obtain ⟨_, _, he, hc, hm⟩ := h.form
  obtain rfl : n = l.length := by injection he
  clear he
  unfold maxLen at hm
  have H := Lib.hid h
  clear h
  go_enter Tryd.func29, Tryd.ntmps29
  go_wp2_with fail
  go_loopw [3, 8] (fun v i wr => ∃ k : Nat, k ≤ l.length ∧ i = .int .i64 k ∧ Below w.heap.size w wr ∧ OwnsStr wr w.heap.size v (texts (l.take k))) (fun _ i _ => l.length - (intOf i).toNat)
  case atStart => exact ⟨0, by omega, rfl, Below.refl _ _, World.ownsRow_nil _ _ _ _⟩
  case round =>
    obtain ⟨k, hk, rfl, hbw, hown⟩ := hrel
    have HOWN := Lib.hid hown
    clear hown
    by_cases hlt : k < l.length
    · obtain ⟨x, hx⟩ : ∃ x, l[k]? = some x := ⟨_, List.getElem?_eq_getElem hlt⟩
      obtain ⟨b, off, rfl, hb1, q0, q1, q2, q3⟩ := rdlxK_at (H.out.below hbw) hx
      have hb1' : b < wr.heap.size := Nat.lt_of_lt_of_le hb1 hbw.size
      have hts : texts (l.take (k + 1)) = texts (l.take k) ++ (if (x.kind != 0) = true then [x.text] else []) := by
        rw [List.take_add_one, hx, Option.toList_some, texts_snoc]
      have htl := texts_len (l.take k)
      rw [List.length_take] at htl
      have HX := Lib.hid hx
      have HTS := Lib.hid hts
      clear hx hts
      cases hk0 : (x.kind != 0)
      · go_wp2_with fail
        refine ⟨⟨k + 1, by omega, by go_num, hbw.alloc hbw.size _, ?_⟩, by simp [intOf]; omega⟩
        rw [HTS.out, hk0, if_neg (by decide), List.append_nil]
        exact own_fresh HOWN.out _
      · have hown1 : OwnsStr (wr.alloc (.cells #[.int .i64 x.kind, .string (str x.text), .int .i64 x.num, .int .i64 x.off] 58)) w.heap.size u3 (texts (l.take k)) := own_fresh HOWN.out _
        have HOWN1 := Lib.hid hown1
        clear hown1
        go_wp2_with (at_builtin; refine append_str (wr.alloc (.cells #[.int .i64 x.kind, .string (str x.text), .int .i64 x.num, .int .i64 x.off] 58)) rfl (.tmp 15) (.tmp 18) rfl w.heap.size u3 (texts (l.take k)) rfl HOWN1.out (by omega) (by have := hbw.size; rw [World.size_alloc]; omega) x.text (str x.text) (by rw [World.size_alloc]; rfl) rfl ?_; intro v2 w2 hown2 hg2; have HOWN2 := Lib.hid hown2; have HG2 := Lib.hid hg2; clear hown2 hg2)
        refine ⟨⟨k + 1, by omega, by go_num, ?_, ?_⟩, by simp [intOf]; omega⟩
        · exact (hbw.alloc hbw.size _).grown HG2.out (by have := hbw.size; rw [World.size_alloc]; omega) (fun b hb => (HOWN.out.lt b hb).1)
        · rw [HTS.out, hk0, if_pos rfl]
          exact HOWN2.out
    · have htl := texts_len l
      have hown1 := HOWN.out
      rw [List.take_of_length_le (by omega)] at hown1
      have HOWN1 := Lib.hid hown1
      clear hown1
      go_wp2_with fail
      refine (join_any _ _ _ (texts l) HOWN1.out (by omega) hlen).mono ?_
      rintro e w2 ⟨rfl, hbw2⟩
      go_wp2_with fail
      go_ret
      exact ⟨rfl, hbw.trans (hbw2.mono hbw.size)⟩

end Go.Proofs.YtokgonpeolppnaaDoor
