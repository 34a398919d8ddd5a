/-
  The contracts of the lexer's functions Same and Print.
-/
import Derived.Test.YtbmcfodhjibooaaDoorLexA
import Derived.Test.YtbmcfodhjibooaaDoorPlainA
namespace Go.Proofs.YtbmcfodhjibooaaDoor
open Go.RowKit Saw

theorem rdlx_at {w : World} {B : Nat} {A : Option Addr} {n c : Nat} {l : List Lx} (h : Rd w B 4 (.slice A n c) l.length (lxsCells l)) {i : Nat} {x : Lx} (hx : l[i]? = some x) :
    ∃ b off, A = some ⟨b, off, none⟩ ∧ b < B ∧ w.cell? ⟨b, off + i * 4, none⟩ = some (.int .i64 x.kind) ∧ w.cell? ⟨b, off + i * 4 + 1, none⟩ = some (.string (str x.text)) ∧
      w.cell? ⟨b, off + i * 4 + 2, none⟩ = some (.int .i64 x.num) ∧ w.cell? ⟨b, off + i * 4 + 3, none⟩ = some (.int .i64 x.off) := by
  obtain ⟨_, _, A', c', he, _, h3⟩ := h
  injection he with h1 h2 h4
  subst h1
  have hi : i < l.length := (List.getElem?_eq_some_iff.1 hx).1
  obtain ⟨b, off, rfl, hb, hcell⟩ := h3 (by omega)
  obtain ⟨k0, k1, k2, k3⟩ := lxs_at l i x hx
  exact ⟨b, off, rfl, hb, hcell _ _ k0, hcell _ _ k1, hcell _ _ k2, hcell _ _ k3⟩

set_option maxHeartbeats 400000 in
theorem sameOne_any (x y : Lx) (w : World) :
    Calls Tryd.prog 74 #[.agg #[.int .i64 x.kind, .string (str x.text), .int .i64 x.num, .int .i64 x.off], .agg #[.int .i64 y.kind, .string (str y.text), .int .i64 y.num, .int .i64 y.off]] w
      fun e w' => e = .returned (.bool (sameLx x y)) ∧ Below w.heap.size w w' := by
  have e1 : ((str x.text).toList == (str y.text).toList) = (x.text == y.text) := by rw [toList_bts, toList_bts, bts_str, bts_str]
  cases h1 : (x.kind == y.kind) <;> cases h2 : (x.text == y.text)
  all_goals
    rw [h2] at e1
    go_enter Tryd.func74, Tryd.ntmps74
    go_wp2_with fail
    go_ret
    refine ⟨ret_bool ?_, ((Below.refl _ _).alloc (Nat.le_refl _) _).alloc (by simp) _⟩
    simp [sameLx, h1, h2]

set_option maxHeartbeats 400000 in
theorem eqFunc_any (A A' : Option Addr) (n n' c c' : Nat) (l l' : List Lx) (w : World) (h : RdLx w (.slice A n c) l) (h' : RdLx w (.slice A' n' c') l') :
    Calls Tryd.prog 73 #[.slice A n c, .slice A' n' c', .func (.func 74) #[] #[]] w fun e w' => e = .returned (.bool (sameP l l')) ∧ Below w.heap.size w w' := by
  obtain ⟨_, _, he, hc, hm⟩ := h.form
  obtain ⟨_, _, he', hc', hm'⟩ := h'.form
  obtain rfl : n = l.length := by injection he
  obtain rfl : n' = l'.length := by injection he'
  clear he he'
  unfold maxLen at hm hm'
  have H := Lib.hid h
  have H' := Lib.hid h'
  clear h h'
  by_cases hln : l.length = l'.length
  · have hb : ((l.length : Int) != (l'.length : Int)) = false := by simp; omega
    have hle : l.length ≤ l'.length := by omega
    have hle' : l'.length ≤ l.length := by omega
    have HLN := Lib.hid hln
    clear hln
    go_enter Tryd.func73, Tryd.ntmps73
    go_wp2_with fail
    go_loopw [17] (fun i wr => ∃ k : Nat, k ≤ l.length ∧ i = .int .i64 k ∧ Below w.heap.size w wr ∧ sameP (l.drop k) (l'.drop k) = sameP l l') (fun i _ => l.length - (intOf i).toNat)
    case atStart => exact ⟨0, by omega, rfl, Below.refl _ _, by simp⟩
    case round =>
      obtain ⟨k, hk, rfl, hbw, hr⟩ := hrel
      have HR := Lib.hid hr
      clear hr
      by_cases hlt : k < l.length
      · obtain ⟨x, hx⟩ : ∃ x, l[k]? = some x := ⟨_, List.getElem?_eq_getElem hlt⟩
        obtain ⟨y, hy⟩ : ∃ y, l'[k]? = some y := ⟨_, List.getElem?_eq_getElem (by omega)⟩
        obtain ⟨b, off, rfl, hb1, q0, q1, q2, q3⟩ := rdlx_at (H.out.below hbw) hx
        obtain ⟨b', off', rfl, hb2, r0, r1, r2, r3⟩ := rdlx_at (H'.out.below hbw) hy
        have HS := Lib.hid (same_step l l' k x y hx hy)
        have HX := Lib.hid hx
        have HY := Lib.hid hy
        clear hx hy
        have hlt' : k < l'.length := by omega
        have hb1' : b < wr.heap.size := Nat.lt_of_lt_of_le hb1 hbw.size
        have hb2' : b' < wr.heap.size := Nat.lt_of_lt_of_le hb2 hbw.size
        go_wp2_with fail
        refine (sameOne_any x y _).mono ?_
        rintro e w2 ⟨rfl, hbw2⟩
        have HBW := Lib.hid hbw
        have HBW2 : Hid (Below w.heap.size w w2) := ((hbw.alloc hbw.size _).alloc (by have := hbw.size; simp; omega) _).trans (hbw2.mono (by have := hbw.size; simp; omega))
        clear hbw hbw2 q0 q1 q2 q3 r0 r1 r2 r3
        cases hsm : sameLx x y
        · go_wp2_with fail
          go_ret
          exact ⟨ret_bool (by rw [← HR.out, HS.out, hsm]; rfl), HBW2.out⟩
        · go_wp2_with fail
          exact ⟨⟨k + 1, by omega, by go_num, HBW2.out, by rw [← HR.out, HS.out, hsm]; simp⟩, by simp [intOf]; omega⟩
      · go_wp2_with fail
        go_ret
        refine ⟨ret_bool ?_, hbw⟩
        rw [← HR.out, List.drop_eq_nil_of_le (by omega), List.drop_eq_nil_of_le (by omega)]
        rfl
  · have hb : ((l.length : Int) != (l'.length : Int)) = true := by simp; omega
    go_enter Tryd.func73, Tryd.ntmps73
    go_wp2_with fail
    go_ret
    refine ⟨ret_bool ?_, Below.refl _ _⟩
    cases hs : sameP l l'
    · rfl
    · exact absurd (same_len l l' hs) hln

theorem same_any (A A' : Option Addr) (n n' c c' : Nat) (l l' : List Lx) (w : World) (h : RdLx w (.slice A n c) l) (h' : RdLx w (.slice A' n' c') l') :
    Calls Tryd.prog 36 #[.slice A n c, .slice A' n' c'] w fun e w' => e = .returned (.bool (sameP l l')) ∧ Below w.heap.size w w' := by
  have H := Lib.hid h
  have H' := Lib.hid h'
  clear h h'
  go_enter Tryd.func36, Tryd.ntmps36
  go_wp2_with fail
  refine (eqFunc_any _ _ _ _ _ _ l l' _ H.out H'.out).mono ?_
  rintro e w2 ⟨rfl, hbw2⟩
  go_wp2_with fail
  go_ret
  exact ⟨rfl, hbw2⟩

end Go.Proofs.YtbmcfodhjibooaaDoor
