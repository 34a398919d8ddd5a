/-
  The contract of the lexer's function Scan.
-/
import Derived.Test.YtkalkglllgebkaaDoorLexD
import Derived.Test.YtkalkglllgebkaaDoorPlainA
namespace Go.Proofs.YtkalkglllgebkaaDoor
open Go.RowKit Saw

/-- The cells of a lexeme, and of a list of them. -/
def lxCells (x : Lx) : List Value := [.int .i64 x.kind, .string (str x.text), .int .i64 x.num, .int .i64 x.off]
def lxsCells (l : List Lx) : List Value := l.flatMap lxCells
theorem lxsCells_snoc (l : List Lx) (x : Lx) : lxsCells (l ++ [x]) = lxsCells l ++ lxCells x := by simp [lxsCells]
theorem lxsCells_length (l : List Lx) : (lxsCells l).length = l.length * 4 := by
  induction l with
  | nil => rfl
  | cons x r ih =>
    have : lxsCells (x :: r) = lxCells x ++ lxsCells r := rfl
    rw [this, List.length_append, ih, List.length_cons]
    simp [lxCells]; omega

/-- A slice that owns its lexemes, from a block on. -/
def OwnsLx (w : World) (base : Nat) (v : Value) (l : List Lx) : Prop := w.ownsRow base 49 4 v l.length (lxsCells l)

theorem info_lx : (Tryd.prog.info? 49).map (fun i => (i.zero, i.size, i.bytes)) = some (some (.agg #[.int .i64 0, .string ⟨#[]⟩, .int .i64 0, .int .i64 0]), 4, 40) := by kernel_rfl

theorem cell_new4 (w : World) (t : TypeId) (c0 c1 c2 c3 : Value) (j : Nat) (u : Value) (h : [c0, c1, c2, c3][j]? = some u) :
    (w.alloc (.cells #[c0, c1, c2, c3] t)).cell? ((⟨w.heap.size, 0, none⟩ : Addr).add j) = some u := by
  have hadd : (⟨w.heap.size, 0, none⟩ : Addr).add j = ⟨w.heap.size, j, none⟩ := by unfold Addr.add; split <;> simp_all
  rw [hadd, World.cell?_alloc_at _ _ _ _ rfl, ← h]
  simp

/-- One lexeme appended to a row of the call's own. -/
theorem append_lx {ops : Array Oper} {rest : List Oper} {o : Oper} {a : Act} {Q : Exit → Act → World → Prop} (W : World) (hgd : o.guard = none) (s x : Operand)
    (ho : o.op = .call { callee := .builtin .append, args := #[s, x], argTypes := #[45, 45] })
    (base : Nat) (v : Value) (l : List Lx) (hs : a.eval s = v) (hown : OwnsLx W base v l) (hl : l.length ≤ 100000) (hbase : base ≤ W.heap.size)
    (y : Lx) (k : Int) (t : ByteArray) (n p : Int) (hx : a.eval x = .slice (some ⟨W.heap.size, 0, none⟩) 1 1) (hy : [.int .i64 k, .string t, .int .i64 n, .int .i64 p] = lxCells y)
    (h : ∀ v' w', OwnsLx w' base v' (l ++ [y]) → W.grownBy w' v.ownBlock → wpList Tryd.prog ops Q rest (a.put o.dst v') w') :
    wpList Tryd.prog ops Q (o :: rest) a (W.alloc (.cells #[.int .i64 k, .string t, .int .i64 n, .int .i64 p] 49)) := by
  obtain ⟨i0, hi, hz0, hz1, hz2⟩ := info_parts info_lx
  refine wpList_append_own _ hgd s x 45 ho base 49 i0 _ 4 40 Tryd.underlying45 hi hz0 hz1 hz2 rfl (by decide) v l.length (lxsCells l) hs (World.ownsRow.alloc hown _) ⟨W.heap.size, 0, none⟩ 1 1
    [.int .i64 k, .string t, .int .i64 n, .int .i64 p] hx rfl (cell_new4 W _ _ _ _ _) (by simp [Value.oneCell']) (by simp only [maxLen]; omega) (by omega) (by rw [World.size_alloc]; omega) ?_
  intro v' w' hown' hg _
  refine h v' w' ?_ ?_
  · unfold OwnsLx
    rw [List.length_append, lxsCells_snoc, ← hy]
    exact hown'
  · exact ⟨hg.os, hg.tape, hg.output, by have := hg.size; rw [World.size_alloc] at this; omega, fun i hi hne => (hg.block i (by rw [World.size_alloc]; omega) hne).trans (Below.heap_alloc W _ i hi)⟩

theorem ownsRow_below {w w' : World} {base B : Nat} {e : TypeId} {size n : Nat} {v : Value} {xs : List Value} (h : w.ownsRow base e size v n xs) (hb : Below B w w') (hB : w.heap.size ≤ B := by exact Nat.le_refl _) : w'.ownsRow base e size v n xs := by
  refine ⟨h.1, ?_⟩
  rcases h.2 with hn | ⟨g, cap, cur, rfl, hbg, hgg, rest⟩
  · exact .inl hn
  · exact .inr ⟨g, cap, cur, rfl, hbg, (hb.block g (Nat.lt_of_lt_of_le (Array.getElem?_eq_some_iff.1 hgg).1 hB)).trans hgg, rest⟩

theorem box_kept {W w' : World} {b i : Nat} {row : Option Nat} {u : Value} (hg : W.grownBy w' row) (hr : some b ≠ row) (h : W.cell? ⟨b, i, none⟩ = some u) : w'.cell? ⟨b, i, none⟩ = some u :=
  hg.cell (a := ⟨b, i, none⟩) h hr

theorem below_scan {w wr w1 w2 : World} {o : Obj} {row : Option Nat} (h : Below w.heap.size w wr) (h1 : Below wr.heap.size wr w1) (hg : (w1.alloc o).grownBy w2 row) (hr : ∀ b, row = some b → w.heap.size ≤ b) : Below w.heap.size w w2 :=
  ((h.trans (h1.mono h.size)).alloc (Nat.le_trans h.size h1.size) o).grown hg (by rw [World.size_alloc]; have := h.size; have := h1.size; omega) hr

def ScanPost (l : List UInt8) (w : World) (e : Ending) (w' : World) : Prop :=
  ∃ v, e = .returned (.tuple #[v, .int .i64 (scanP l).2.1, .int .i64 (scanP l).2.2]) ∧ OwnsLx w' w.heap.size v (scanP l).1 ∧ Below w.heap.size w w'

set_option maxHeartbeats 400000 in
theorem scan_long (s : ByteArray) (w : World) (hl : 8000 < s.size) (hs : s.size ≤ 9223372036854775807) :
    Calls Tryd.prog 26 #[.string s] w (ScanPost (bts s) w) := by
  have hv : scanP (bts s) = ([], 4, 0) := by rw [scanP, if_pos (by rw [← size_bts]; exact hl)]
  have HV := Lib.hid hv
  clear hv
  go_enter Tryd.func26, Tryd.ntmps26
  go_wp2_with fail
  go_ret3
  refine ⟨.slice none 0 0, ?_, ?_, Below.refl _ _⟩
  · rw [HV.out]
    rfl
  · rw [HV.out]
    exact World.ownsRow_nil _ _ _ _

def ScanRel (s : ByteArray) (w : World) (R : List Lx × Int × Int) (v i : Value) (wr : World) : Prop :=
  ∃ (k : Nat) (xs : List Lx), k ≤ s.size ∧ i = .int .i64 k ∧ xs.length ≤ k ∧ OwnsLx wr w.heap.size v xs ∧ Below w.heap.size w wr ∧ lxAhead xs (scanR ((bts s).drop k) k) = R

set_option maxRecDepth 100000 in
set_option maxHeartbeats 400000 in
theorem scan_short (s : ByteArray) (w : World) (hl : s.size ≤ 8000) :
    Calls Tryd.prog 26 #[.string s] w (ScanPost (bts s) w) := by
  obtain ⟨R, hR⟩ : ∃ R, scanP (bts s) = R := ⟨_, rfl⟩
  obtain ⟨i0, hi, hz0, hz1, hz2⟩ := info_parts info_lx
  have hsk := skipN_le (bts s) false
  obtain ⟨k0, hk0⟩ : ∃ k0, skipN false (bts s) = k0 := ⟨_, rfl⟩
  rw [hk0, ← size_bts] at hsk
  have hR' : lxAhead [] (scanR ((bts s).drop k0) k0) = R := by
    rw [lxAhead_nil _ (scanR_zero _ _), ← hR, scanP, if_neg (by rw [← size_bts]; omega), hk0]
  have HR := Lib.hid hR
  have HR' := Lib.hid hR'
  have HK := Lib.hid hk0
  clear hR hR' hk0
  go_enter Tryd.func26, Tryd.ntmps26
  go_wp2_with fail
  refine (skip_any _ _ _ (by omega) (by omega) (by omega)).mono ?_
  rintro e w' ⟨he, rfl⟩
  rw [Int.toNat_zero, List.drop_zero, HK.out, Int.zero_add] at he
  subst he
  go_wp2_with fail
  go_loopw [5, 6] (fun v i wr => ScanRel s w R v i wr) (fun _ i _ => s.size - (intOf i).toNat)
  case atStart => exact ⟨k0, [], hsk, rfl, by simp, World.ownsRow_nil _ _ _ _, Below.refl _ _, HR'.out⟩
  case round =>
    obtain ⟨k, xs, hk, rfl, hxk, hown, hbw, hrel⟩ := hrel
    have HREL := Lib.hid hrel
    have HOWN := Lib.hid hown
    clear hrel hown
    by_cases hlt : k < s.size
    · obtain ⟨x, er, hx⟩ : ∃ x er, readP ((bts s).drop k) k = (x, er) := ⟨_, _, rfl⟩
      have HX := Lib.hid hx
      clear hx
      by_cases he0 : er = 0
      · subst he0
        obtain ⟨hne, htx, hoff, _⟩ : 0 < x.text.length ∧ x.text = ((bts s).drop k).take x.text.length ∧ x.off = k ∧ x.kind ≠ 0 := by
          have h := readP_text ((bts s).drop k) k (by rw [HX.out])
          rw [HX.out] at h
          exact h
        have hlen : k + x.text.length ≤ s.size := by
          have h1 : x.text.length ≤ ((bts s).drop k).length := by rw [htx]; exact List.length_take_le' _ _
          rw [List.length_drop, ← size_bts] at h1
          omega
        have hsz : (str x.text).size = x.text.length := size_str _
        obtain ⟨m, hm⟩ : ∃ m, x.text.length = m := ⟨_, rfl⟩
        rw [hm] at hne hlen hsz
        obtain ⟨t, ht⟩ : ∃ t, str x.text = t := ⟨_, rfl⟩
        rw [ht] at hsz
        have hts : t.size ≤ 8000 := by omega
        have htm : t.size ≤ m := by omega
        have htm2 : m ≤ t.size := by omega
        have HSZ := Lib.hid hsz
        have HM := Lib.hid hm
        have HT := Lib.hid ht
        have HTX := Lib.hid htx
        have HOFF := Lib.hid hoff
        clear hsz hm ht htx hoff
        go_wp2_with fail
        refine (read_any s k _ hlt (by omega)).mono ?_
        rintro e w1 ⟨he, hbw1⟩
        rw [HX.out] at he
        simp only [lxAgg, HT.out] at he
        subst he
        have HB1 := Lib.hid hbw1
        have hsz1 := hbw1.size
        clear hbw1
        have hown1 : OwnsLx (w1.alloc (.cells #[.int .i64 x.kind, .string t, .int .i64 x.num, .int .i64 x.off] 49)) w.heap.size u5 xs := World.ownsRow.alloc (ownsRow_below HOWN.out HB1.out) _
        have HOWN1 := Lib.hid hown1
        clear hown1
        have hu5 : ∀ b, u5.ownBlock = some b → b < wr.heap.size := fun b hb => (HOWN.out.lt b hb).2
        have HU5 := Lib.hid hu5
        clear hu5
        go_wp2_with (at_builtin; refine append_lx (w1.alloc (.cells #[.int .i64 x.kind, .string t, .int .i64 x.num, .int .i64 x.off] 49)) rfl (.tmp 28) (.tmp 30) rfl w.heap.size u5 xs rfl HOWN1.out (by omega) (by have := hbw.size; rw [World.size_alloc]; omega) x x.kind t x.num x.off (by rw [World.size_alloc]; rfl) (by rw [lxCells, HT.out]) ?_; intro v2 w2 hown2 hg2; have HOWN2 := Lib.hid hown2; have HG2 := Lib.hid hg2; have hct : w2.cell? ⟨w1.heap.size, 1, none⟩ = some (.string t) := box_kept hg2 (fun e => by have := HU5.out _ e.symm; omega) (by rw [World.cell?_alloc_at _ _ _ _ rfl]; rfl); clear hown2 hg2)
        refine (skip_any _ _ _ (by omega) (by omega) (by omega)).mono ?_
        rintro e w3 ⟨he, rfl⟩
        obtain ⟨j, hj⟩ : ∃ j, skipN false ((bts s).drop (k + m)) = j := ⟨_, rfl⟩
        have hjl := skipN_le ((bts s).drop (k + m)) false
        rw [hj, List.length_drop, ← size_bts] at hjl
        rw [show ((k : Int) + (t.size : Int)).toNat = k + m by omega, hj] at he
        have hrel3 : lxAhead (xs ++ [x]) (scanR ((bts s).drop (k + m + j)) ((k + m + j : Nat) : Int)) = R := by
          have h := HREL.out
          rw [scanR_ok _ _ (by rw [drop_cons s k hlt]; simp) (by rw [HX.out]) m j (by rw [HX.out]; exact HM.out) (by rw [List.drop_drop]; exact hj), HX.out, lxAhead_lxAhead, List.drop_drop] at h
          rw [← h]
          congr 2
          · congr 1; omega
          · omega
        have HREL3 := Lib.hid hrel3
        have HJ := Lib.hid hj
        have hjk : ((k : Int) + (t.size : Int)) + (j : Int) = ((k + m + j : Nat) : Int) := by omega
        rw [hjk] at he
        subst he
        have HBW2 := Lib.hid (below_scan hbw HB1.out HG2.out (fun b hb => (HOWN.out.lt b hb).1))
        clear hrel3 hj hjk
        go_wp2_with fail
        exact ⟨⟨k + m + j, xs ++ [x], by omega, rfl, by simp; omega, HOWN2.out, HBW2.out, HREL3.out⟩, by simp [intOf]; omega⟩
      · have hen : (er != 0) = true := by simpa using he0
        go_wp2_with fail
        refine (read_any s k _ hlt (by omega)).mono ?_
        rintro e w1 ⟨he, hbw1⟩
        rw [HX.out] at he
        simp only [lxAgg] at he
        subst he
        go_wp2_with fail
        go_ret3
        have hRR : R = ([], er, (k : Int)) := by
          have h := HREL.out
          rw [scanR_err _ _ (by rw [drop_cons s k hlt]; simp) (by rw [HX.out]; exact he0), HX.out] at h
          rw [← h, lxAhead, if_neg he0]
        refine ⟨.slice none 0 0, ?_, ?_, ?_⟩
        · rw [HR.out, hRR]
          rfl
        · rw [HR.out, hRR]
          exact World.ownsRow_nil _ _ _ _
        · exact (hbw.trans (hbw1.mono hbw.size)).alloc (Nat.le_trans hbw.size hbw1.size) _
    · go_wp2_with (at_builtin; refine append_lx wr rfl (.tmp 39) (.tmp 43) rfl w.heap.size u5 xs rfl HOWN.out (by omega) hbw.size (lxEnd s.size) 0 ⟨#[]⟩ 0 s.size rfl rfl ?_; intro v2 w2 hown2 hg2; have HOWN2 := Lib.hid hown2; clear hown2)
      go_ret3
      obtain rfl : k = s.size := by omega
      have hRR : R = (xs ++ [lxEnd s.size], 0, 0) := by
        have h := HREL.out
        rw [drop_nil s s.size (by omega), scanR_nil] at h
        rw [← h]
        rfl
      refine ⟨v2, ?_, ?_, ?_⟩
      · rw [HR.out, hRR]
        rfl
      · rw [HR.out, hRR]
        exact HOWN2.out
      · exact hbw.grown hg2 hbw.size (fun b hb => (HOWN.out.lt b hb).1)

theorem scan_any (s : ByteArray) (w : World) (hs : s.size ≤ 9223372036854775807) : Calls Tryd.prog 26 #[.string s] w (ScanPost (bts s) w) := by
  by_cases hl : 8000 < s.size
  · exact scan_long s w hl hs
  · exact scan_short s w (by omega)

end Go.Proofs.YtkalkglllgebkaaDoor
