/-
  Slices of lexemes that are read: the law's function equal.
-/
import Derived.Test.YtbepjalhbmofjaaLexE
import Derived.Test.YtbepjalhbmofjaaRd
namespace Go.Proofs.Ytbepjalhbmofjaa
open Go.RowKit Saw

/-- The slice value v reads as the lexemes l. -/
def RdLx (w : World) (v : Value) (l : List Lx) : Prop := Rd w w.heap.size 4 v l.length (lxsCells l)

theorem lxs_at (l : List Lx) (i : Nat) (x : Lx) (h : l[i]? = some x) : (lxsCells l)[i * 4]? = some (.int .i64 x.kind) ∧ (lxsCells l)[i * 4 + 1]? = some (.string (str x.text)) ∧ (lxsCells l)[i * 4 + 2]? = some (.int .i64 x.num) ∧ (lxsCells l)[i * 4 + 3]? = some (.int .i64 x.off) := by
  induction l generalizing i with
  | nil => simp at h
  | cons y r ih =>
    have e : lxsCells (y :: r) = .int .i64 y.kind :: .string (str y.text) :: .int .i64 y.num :: .int .i64 y.off :: lxsCells r := rfl
    cases i with
    | zero =>
      simp only [List.getElem?_cons_zero, Option.some.injEq] at h
      subst h
      rw [e]
      simp
    | succ j =>
      simp only [List.getElem?_cons_succ] at h
      have := ih j h
      rw [e, show (j + 1) * 4 = j * 4 + 4 by omega]
      simpa using this

theorem RdLx.form {w : World} {v : Value} {l : List Lx} (h : RdLx w v l) : ∃ A c, v = .slice A l.length c ∧ l.length ≤ c ∧ l.length ≤ maxLen := by
  obtain ⟨_, h2, A, c, rfl, hc, _⟩ := h
  exact ⟨A, c, rfl, hc, h2⟩
theorem RdLx.at_ {w : World} {A : Option Addr} {n c : Nat} {l : List Lx} (h : RdLx w (.slice A n c) l) {i : Nat} {x : Lx} (hx : l[i]? = some x) :
    ∃ b off, A = some ⟨b, off, none⟩ ∧ b < w.heap.size ∧ w.cell? ⟨b, off + i * 4, none⟩ = some (.int .i64 x.kind) ∧ w.cell? ⟨b, off + i * 4 + 1, none⟩ = some (.string (str x.text)) ∧
      w.cell? ⟨b, off + i * 4 + 2, none⟩ = some (.int .i64 x.num) ∧ w.cell? ⟨b, off + i * 4 + 3, none⟩ = some (.int .i64 x.off) := by
  obtain ⟨_, _, A', c', he, _, h3⟩ := h
  injection he with h1 h2 h4
  subst h1
  have hi : i < l.length := (List.getElem?_eq_some_iff.1 hx).1
  obtain ⟨b, off, rfl, hb, hcell⟩ := h3 (by omega)
  obtain ⟨k0, k1, k2, k3⟩ := lxs_at l i x hx
  exact ⟨b, off, rfl, hb, hcell _ _ k0, hcell _ _ k1, hcell _ _ k2, hcell _ _ k3⟩

theorem fields_lx : Try.prog.underlying 32 = some (.struct (Try.prog.fieldsOf 32)) := by kernel_rfl
theorem stood_lx : Try.prog.stoodInHeld 32 = false := by kernel_rfl
theorem guard_lx : Try.prog.eqGuardType Try.prog.depth 32 = false := by kernel_rfl
theorem take_more {α : Type} {l l' : List α} {k : Nat} {x : α} (h : l.take k = l'.take k) (h1 : l[k]? = some x) (h2 : l'[k]? = some x) : l.take (k + 1) = l'.take (k + 1) := by
  rw [List.take_add_one, List.take_add_one, h, h1, h2]
theorem str_inj {a b : List UInt8} (h : str a = str b) : a = b := by rw [← bts_str a, h, bts_str]
theorem lx_eqB (x y : Lx) : decide (x = y) = ((x.kind == y.kind) && ((x.text == y.text) && ((x.num == y.num) && (x.off == y.off)))) := by
  rw [Bool.eq_iff_iff]
  cases x; cases y
  simp
theorem eqIn_lx (x y : Lx) (W : World) : (Op.equalIn 10000 32 (.agg #[.int .i64 x.kind, .string (str x.text), .int .i64 x.num, .int .i64 x.off]) (.agg #[.int .i64 y.kind, .string (str y.text), .int .i64 y.num, .int .i64 y.off])).run Try.prog W = .ok (decide (x = y)) W := by
  have u3 := Try.underlying3
  have a3 := Try.isAgg3
  have z3 := Try.sizeOf3
  have u9 := Try.underlying9
  have a9 := Try.isAgg9
  have z9 := Try.sizeOf9
  rw [show (10000 : Nat) = 9999 + 1 from rfl, run_equalIn_agg W 9999 32 _ _ fields_lx stood_lx, lx_eqB]
  simp only [Program.fieldsOf, Try.underlying32]
  go_simp
  simp only [toList_bts, bts_str]
  by_cases h1 : x.kind = y.kind <;> by_cases h2 : x.text = y.text <;> by_cases h3 : x.num = y.num <;> by_cases h4 : x.off = y.off <;> simp [h1, h2, h3, h4]
theorem eql_lx (x y : Lx) (W : World) : (binOp .eql 32 (.agg #[.int .i64 x.kind, .string (str x.text), .int .i64 x.num, .int .i64 x.off]) (.agg #[.int .i64 y.kind, .string (str y.text), .int .i64 y.num, .int .i64 y.off])).run Try.prog W = .ok (.bool (decide (x = y))) W := by
  rw [run_eql_struct, eqIn_lx]
  rfl
theorem neq_lx (x y : Lx) (W : World) : (binOp .neq 32 (.agg #[.int .i64 x.kind, .string (str x.text), .int .i64 x.num, .int .i64 x.off]) (.agg #[.int .i64 y.kind, .string (str y.text), .int .i64 y.num, .int .i64 y.off])).run Try.prog W = .ok (.bool (!decide (x = y))) W := by
  rw [run_neq_struct, eqIn_lx]
  rfl

set_option maxHeartbeats 400000 in
theorem equal_any (A A' : Option Addr) (n n' c c' : Nat) (l l' : List Lx) (w : World) (h : RdLx w (.slice A n c) l) (h' : RdLx w (.slice A' n' c') l') :
    Calls Try.prog 13 #[.slice A n c, .slice A' n' c'] w fun e w' => e = .returned (.bool (decide (l = l'))) ∧ ∃ k, w' = w.drewN k := by
  obtain ⟨_, _, he, hc, hm⟩ := h.form
  obtain ⟨_, _, he', hc', hm'⟩ := h'.form
  obtain rfl : n = l.length := by injection he
  obtain rfl : n' = l'.length := by injection he'
  clear he he'
  unfold maxLen at hm hm'
  have H := Lib.hid h
  have H' := Lib.hid h'
  clear h h'
  by_cases hln : l.length = l'.length
  · have hb : ((l.length : Int) != (l'.length : Int)) = false := by simp; omega
    have hle : l.length ≤ l'.length := by omega
    have hle' : l'.length ≤ l.length := by omega
    have HLN := Lib.hid hln
    clear hln
    go_enter Try.func13, Try.ntmps13
    go_wp2_with fail
    go_loopw [5] (fun i wr => ∃ k m : Nat, k ≤ l.length ∧ i = .int .i64 k ∧ wr = w.drewN m ∧ l.take k = l'.take k) (fun i _ => l.length - (intOf i).toNat)
    case atStart => exact ⟨0, 0, by omega, rfl, rfl, by simp⟩
    case round =>
      obtain ⟨k, m, hk, rfl, rfl, hr⟩ := hrel
      have HR := Lib.hid hr
      clear hr
      by_cases hlt : k < l.length
      · obtain ⟨x, hx⟩ : ∃ x, l[k]? = some x := ⟨_, List.getElem?_eq_getElem hlt⟩
        obtain ⟨y, hy⟩ : ∃ y, l'[k]? = some y := ⟨_, List.getElem?_eq_getElem (by omega)⟩
        obtain ⟨b, off, rfl, _, q0, q1, q2, q3⟩ := H.out.at_ hx
        obtain ⟨b', off', rfl, _, r0, r1, r2, r3⟩ := H'.out.at_ hy
        have HX := Lib.hid hx
        have HY := Lib.hid hy
        clear hx hy
        have hlt' : k < l'.length := by omega
        have hneq := fun W => neq_lx x y W
        have hgd := fun W x' y' xs ys => run_eqGuard_agg (P := Try.prog) W .neq 32 x' y' xs ys guard_lx
        go_wp2_with fail
        go_quiet (fail)
        rw [World.drewN_drewN]
        by_cases hxy : x = y
        · have hd : decide (x = y) = true := by simpa using hxy
          rw [hd]
          subst hxy
          clear hneq hgd q0 q1 q2 q3 r0 r1 r2 r3
          go_wp2_with fail
          exact ⟨⟨k + 1, m + nq, by omega, by go_num, rfl, take_more HR.out HX.out HY.out⟩, by simp [intOf]; omega⟩
        · have hd : decide (x = y) = false := by simpa using hxy
          rw [hd]
          clear hneq hgd q0 q1 q2 q3 r0 r1 r2 r3
          go_wp2_with fail
          go_ret
          refine ⟨ret_bool ?_, m + nq, rfl⟩
          rw [eq_comm, decide_eq_false_iff_not]
          rintro rfl
          exact hxy (Option.some.inj (HX.out.symm.trans HY.out))
      · go_wp2_with fail
        go_ret
        refine ⟨ret_bool ?_, m, rfl⟩
        have h := HR.out
        rw [List.take_of_length_le (by omega), List.take_of_length_le (by omega)] at h
        simpa using h
  · have hb : ((l.length : Int) != (l'.length : Int)) = true := by simp; omega
    go_enter Try.func13, Try.ntmps13
    go_wp2_with fail
    go_ret
    exact ⟨ret_bool (by simp; intro hh; exact hln (by rw [hh])), 0, rfl⟩

end Go.Proofs.Ytbepjalhbmofjaa
