/-
  RuletextEquals walked.
-/
import Derived.Test.YtkalkglllgebkaaDoorRyV
import Derived.Test.YtkalkglllgebkaaDoorRyG
import Derived.Test.YtkalkglllgebkaaDoorRyH
namespace Go.Proofs.YtkalkglllgebkaaDoor
open Go.RowKit Saw Go.Sort

theorem depthed_two (e : Ex) : ∃ z er, depthed e = (z, er) ∧ (er = 0 ∨ er = 28) := by
  unfold depthed
  split
  · exact ⟨_, _, rfl, .inr rfl⟩
  · exact ⟨_, _, rfl, .inl rfl⟩
/-- The six pairs of texts in memory: each pair is read alike. -/
def EqPairs (W : World) (g : Nat) : Prop := ∀ k : Nat, k < 6 → ∃ (a b : ByteArray) (z : Ex) (er : Int), W.cell? ⟨g, k * 2, none⟩ = some (.string a) ∧ W.cell? ⟨g, k * 2 + 1, none⟩ = some (.string b) ∧ a.size ≤ 100000 ∧ b.size ≤ 100000 ∧ bothP (bts a) = (z, er) ∧ bothP (bts b) = (z, er) ∧ (er = 0 ∨ er = 28)
theorem EqPairs.next {W W' : World} {g : Nat} (h : EqPairs W g) (hb : Below W.heap.size W W') : EqPairs W' g := fun k hk => by
  obtain ⟨a, b, z, er, h1, h2, h3⟩ := h k hk
  exact ⟨a, b, z, er, (hb.cell (block_lt_of_cell h1)).trans h1, (hb.cell (block_lt_of_cell h2)).trans h2, h3⟩
theorem eq_pairs {W : World} {g : Nat} {s t X Y : ByteArray} {x y : Ex} {a b : Int} {ty : TypeId} (h1 : parseX (bts s) = (x, 0, a)) (h2 : parseX (bts t) = (y, 0, b)) (hs : s.size ≤ 1500) (ht : t.size ≤ 1500) (hX : (⟨#[40]⟩ ++ s ++ ⟨#[10, 41]⟩ : ByteArray) = X) (hY : (⟨#[40]⟩ ++ t ++ ⟨#[10, 41]⟩ : ByteArray) = Y) (hXn : X.size ≤ 1503) (hYn : Y.size ≤ 1503)
    (hc : W.heap[g]? = some (.cells #[.string (X ++ ⟨#[62]⟩ ++ Y), .string (Y ++ ⟨#[60]⟩ ++ X), .string (X ++ ⟨#[62, 61]⟩ ++ Y), .string (Y ++ ⟨#[60, 61]⟩ ++ X), .string (X ++ ⟨#[33, 61]⟩ ++ Y), .string (⟨#[110, 111, 116, 32]⟩ ++ X ++ ⟨#[61]⟩ ++ Y),
      .string (⟨#[40]⟩ ++ X ++ ⟨#[45]⟩ ++ Y ++ ⟨#[41]⟩), .string (X ++ ⟨#[45]⟩ ++ Y), .string (X ++ ⟨#[111, 114]⟩ ++ Y), .string (⟨#[40]⟩ ++ X ++ ⟨#[111, 114]⟩ ++ Y ++ ⟨#[41]⟩), .string X, .string s] ty (0, 0))) : EqPairs W g := by
  have bX : bts X = inPar (bts s) := by rw [← hX, bts_append, bts_append]; rfl
  have bY : bts Y = inPar (bts t) := by rw [← hY, bts_append, bts_append]; rfl
  obtain ⟨e1, e2, e3, e4, e5, e6, e7, e8, e9, e10, e11, e12⟩ := equal_law h1 h2 (by rw [← size_bts]; exact hs) (by rw [← size_bts]; exact ht)
  intro k hk
  have z1 : (⟨#[62]⟩ : ByteArray).size = 1 := rfl
  have z2 : (⟨#[60]⟩ : ByteArray).size = 1 := rfl
  have z3 : (⟨#[62, 61]⟩ : ByteArray).size = 2 := rfl
  have z4 : (⟨#[60, 61]⟩ : ByteArray).size = 2 := rfl
  have z5 : (⟨#[33, 61]⟩ : ByteArray).size = 2 := rfl
  have z6 : (⟨#[110, 111, 116, 32]⟩ : ByteArray).size = 4 := rfl
  have z7 : (⟨#[61]⟩ : ByteArray).size = 1 := rfl
  have z8 : (⟨#[40]⟩ : ByteArray).size = 1 := rfl
  have z9 : (⟨#[45]⟩ : ByteArray).size = 1 := rfl
  have z10 : (⟨#[41]⟩ : ByteArray).size = 1 := rfl
  have z11 : (⟨#[111, 114]⟩ : ByteArray).size = 2 := rfl
  obtain rfl | rfl | rfl | rfl | rfl | rfl : k = 0 ∨ k = 1 ∨ k = 2 ∨ k = 3 ∨ k = 4 ∨ k = 5 := by omega
  · obtain ⟨z, er, hz, ho⟩ := depthed_two (two 7 y x)
    exact ⟨_, _, z, er, cell_of_box hc rfl, cell_of_box hc rfl, by simp only [ByteArray.size_append, z1, z2, z3, z4, z5, z6, z7, z8, z9, z10, z11]; omega, by simp only [ByteArray.size_append, z1, z2, z3, z4, z5, z6, z7, z8, z9, z10, z11]; omega, by rw [bts_append, bts_append, bX, bY, ← hz]; exact e1, by rw [bts_append, bts_append, bX, bY, ← hz]; exact e2, ho⟩
  · obtain ⟨z, er, hz, ho⟩ := depthed_two (two 8 y x)
    exact ⟨_, _, z, er, cell_of_box hc rfl, cell_of_box hc rfl, by simp only [ByteArray.size_append, z1, z2, z3, z4, z5, z6, z7, z8, z9, z10, z11]; omega, by simp only [ByteArray.size_append, z1, z2, z3, z4, z5, z6, z7, z8, z9, z10, z11]; omega, by rw [bts_append, bts_append, bX, bY, ← hz]; exact e3, by rw [bts_append, bts_append, bX, bY, ← hz]; exact e4, ho⟩
  · obtain ⟨z, er, hz, ho⟩ := depthed_two (one 9 (two 6 x y))
    exact ⟨_, _, z, er, cell_of_box hc rfl, cell_of_box hc rfl, by simp only [ByteArray.size_append, z1, z2, z3, z4, z5, z6, z7, z8, z9, z10, z11]; omega, by simp only [ByteArray.size_append, z1, z2, z3, z4, z5, z6, z7, z8, z9, z10, z11]; omega, by rw [bts_append, bts_append, bX, bY, ← hz]; exact e5, by rw [bts_append, bts_append, bts_append, bX, bY, ← hz]; exact e6, ho⟩
  · obtain ⟨z, er, hz, ho⟩ := depthed_two (two 4 x y)
    exact ⟨_, _, z, er, cell_of_box hc rfl, cell_of_box hc rfl, by simp only [ByteArray.size_append, z1, z2, z3, z4, z5, z6, z7, z8, z9, z10, z11]; omega, by simp only [ByteArray.size_append, z1, z2, z3, z4, z5, z6, z7, z8, z9, z10, z11]; omega, by rw [bts_append, bts_append, bts_append, bts_append, bX, bY, ← hz]; exact e7, by rw [bts_append, bts_append, bX, bY, ← hz]; exact e8, ho⟩
  · obtain ⟨z, er, hz, ho⟩ := depthed_two (two 11 x y)
    exact ⟨_, _, z, er, cell_of_box hc rfl, cell_of_box hc rfl, by simp only [ByteArray.size_append, z1, z2, z3, z4, z5, z6, z7, z8, z9, z10, z11]; omega, by simp only [ByteArray.size_append, z1, z2, z3, z4, z5, z6, z7, z8, z9, z10, z11]; omega, by rw [bts_append, bts_append, bX, bY, ← hz]; exact e9, by rw [bts_append, bts_append, bts_append, bts_append, bX, bY, ← hz]; exact e10, ho⟩
  · exact ⟨_, _, x, 0, cell_of_box hc rfl, cell_of_box hc rfl, by omega, by omega, by rw [bX]; exact e11, e12, .inl rfl⟩

set_option maxRecDepth 100000 in
set_option maxHeartbeats 2000000 in
theorem ruletextEquals_walk (s t : ByteArray) (w : World) (hs : s.size ≤ 9223372036854775807) (ht : t.size ≤ 9223372036854775807) (hv : VarsX w) :
    Calls Tryd.prog 8 #[.string s, .string t] w (LawX w) := by
  have HV := Lib.hid hv
  clear hv
  by_cases h3 : 1500 < (s.size : Int)
  · go_enter Tryd.func8, Tryd.ntmps8
    go_wp2_with fail
    refine (awake_any w HV.out).mono ?_
    rintro e w2 ⟨he, hb⟩
    subst he
    have HB := Lib.hid hb
    clear hb
    go_wp2_with fail
    go_ret
    exact ⟨rfl, HB.out⟩
  by_cases h4 : 1500 < (t.size : Int)
  · go_enter Tryd.func8, Tryd.ntmps8
    go_wp2_with fail
    refine (awake_any w HV.out).mono ?_
    rintro e w2 ⟨he, hb⟩
    subst he
    have HB := Lib.hid hb
    clear hb
    go_wp2_with fail
    go_ret
    exact ⟨rfl, HB.out⟩
  obtain ⟨⟨x, er, off⟩, hr⟩ : ∃ r, parseX (bts s) = r := ⟨_, rfl⟩
  obtain ⟨⟨y, er2, off2⟩, hr2⟩ : ∃ r, parseX (bts t) = r := ⟨_, rfl⟩
  have HR := Lib.hid hr
  have HR2 := Lib.hid hr2
  clear hr hr2
  go_enter Tryd.func8, Tryd.ntmps8
  go_wp2_with fail
  refine (both_any s w hs).mono ?_
  rintro e w1 ⟨A, c, he, _, hb⟩
  rw [HR.out] at he
  subst he
  have HB1 := Lib.hid hb
  clear hb
  go_upto_region 4 with fail
  have hb2 := (Below.refl w1.heap.size w1).alloc (Nat.le_refl _) (.cells #[.int .i64 x.op, .int .i64 x.n, .string (str x.name), .slice A x.kids.toList.length c] 24)
  obtain ⟨W2, hW2⟩ : ∃ W, w1.alloc (.cells #[.int .i64 x.op, .int .i64 x.n, .string (str x.name), .slice A x.kids.toList.length c] 24) = W := ⟨_, rfl⟩
  rw [hW2] at hb2 ⊢
  have HB2 := Lib.hid (bel_call HB1.out hb2)
  clear hb2 hW2 HB1
  go_wp2_with fail
  refine (both_any t W2 ht).mono ?_
  rintro e w3 ⟨A2, c2, he, _, hb⟩
  rw [HR2.out] at he
  subst he
  have HB3 := Lib.hid (bel_call HB2.out hb)
  clear hb HB2
  go_upto_region 5 with fail
  have hb4 := (Below.refl w3.heap.size w3).alloc (Nat.le_refl _) (.cells #[.int .i64 y.op, .int .i64 y.n, .string (str y.name), .slice A2 y.kids.toList.length c2] 24)
  obtain ⟨W4, hW4⟩ : ∃ W, w3.alloc (.cells #[.int .i64 y.op, .int .i64 y.n, .string (str y.name), .slice A2 y.kids.toList.length c2] 24) = W := ⟨_, rfl⟩
  rw [hW4] at hb4 ⊢
  have HB4 := Lib.hid (bel_call HB3.out hb4)
  clear hb4 hW4 HB3
  have hgo : ∀ (P : Prop), (er = 0 → er2 = 0 → P) → (er ≠ 0 ∨ er2 ≠ 0 → P) → P := fun P h1 h2 => by
    by_cases a : er = 0
    · by_cases b : er2 = 0
      · exact h1 a b
      · exact h2 (.inr b)
    · exact h2 (.inl a)
  by_cases h0 : er = 0
  case neg =>
    have h0' : (er != 0) = true := by rw [bne_iff_ne]; exact h0
    clear h0 hgo
    go_wp2_with fail
    refine (awake_any W4 (HV.out.next HB4.out)).mono ?_
    rintro e w4 ⟨he, hb⟩
    subst he
    have HB5 := Lib.hid (bel_call HB4.out hb)
    clear hb
    go_wp2_with fail
    go_ret
    exact ⟨rfl, HB5.out⟩
  clear hgo
  subst h0
  by_cases h0 : er2 = 0
  case neg =>
    have h0' : (er2 != 0) = true := by rw [bne_iff_ne]; exact h0
    clear h0
    go_wp2_with fail
    refine (awake_any W4 (HV.out.next HB4.out)).mono ?_
    rintro e w4 ⟨he, hb⟩
    subst he
    have HB5 := Lib.hid (bel_call HB4.out hb)
    clear hb
    go_wp2_with fail
    go_ret
    exact ⟨rfl, HB5.out⟩
  subst h0
  have hsn : s.size ≤ 1500 := by omega
  have htn : t.size ≤ 1500 := by omega
  clear h3 h4 hs ht
  go_upto_region 8 with fail
  obtain ⟨X, hX⟩ : ∃ X : ByteArray, (⟨#[40]⟩ ++ s ++ ⟨#[10, 41]⟩ : ByteArray) = X := ⟨_, rfl⟩
  obtain ⟨Y, hY⟩ : ∃ Y : ByteArray, (⟨#[40]⟩ ++ t ++ ⟨#[10, 41]⟩ : ByteArray) = Y := ⟨_, rfl⟩
  have hXn : X.size ≤ 1503 := by rw [← hX, ByteArray.size_append, ByteArray.size_append]; show 1 + s.size + 2 ≤ 1503; omega
  have hYn : Y.size ≤ 1503 := by rw [← hY, ByteArray.size_append, ByteArray.size_append]; show 1 + t.size + 2 ≤ 1503; omega
  rw [hX, hY]
  have HX := Lib.hid hX
  have HY := Lib.hid hY
  clear hX hY
  go_upto_region 9 with fail
  have hb5 := (Below.refl W4.heap.size W4).alloc (Nat.le_refl _) (.cells #[.string (X ++ ⟨#[62]⟩ ++ Y), .string (Y ++ ⟨#[60]⟩ ++ X), .string (X ++ ⟨#[62, 61]⟩ ++ Y), .string (Y ++ ⟨#[60, 61]⟩ ++ X), .string (X ++ ⟨#[33, 61]⟩ ++ Y), .string (⟨#[110, 111, 116, 32]⟩ ++ X ++ ⟨#[61]⟩ ++ Y), .string (⟨#[40]⟩ ++ X ++ ⟨#[45]⟩ ++ Y ++ ⟨#[41]⟩), .string (X ++ ⟨#[45]⟩ ++ Y), .string (X ++ ⟨#[111, 114]⟩ ++ Y), .string (⟨#[40]⟩ ++ X ++ ⟨#[111, 114]⟩ ++ Y ++ ⟨#[41]⟩), .string X, .string s] 42)
  have hc5 := heap_alloc_last W4 (.cells #[.string (X ++ ⟨#[62]⟩ ++ Y), .string (Y ++ ⟨#[60]⟩ ++ X), .string (X ++ ⟨#[62, 61]⟩ ++ Y), .string (Y ++ ⟨#[60, 61]⟩ ++ X), .string (X ++ ⟨#[33, 61]⟩ ++ Y), .string (⟨#[110, 111, 116, 32]⟩ ++ X ++ ⟨#[61]⟩ ++ Y), .string (⟨#[40]⟩ ++ X ++ ⟨#[45]⟩ ++ Y ++ ⟨#[41]⟩), .string (X ++ ⟨#[45]⟩ ++ Y), .string (X ++ ⟨#[111, 114]⟩ ++ Y), .string (⟨#[40]⟩ ++ X ++ ⟨#[111, 114]⟩ ++ Y ++ ⟨#[41]⟩), .string X, .string s] 42)
  obtain ⟨g, hg⟩ : ∃ g, W4.heap.size = g := ⟨_, rfl⟩
  obtain ⟨W5, hW5⟩ : ∃ W, W4.alloc (.cells #[.string (X ++ ⟨#[62]⟩ ++ Y), .string (Y ++ ⟨#[60]⟩ ++ X), .string (X ++ ⟨#[62, 61]⟩ ++ Y), .string (Y ++ ⟨#[60, 61]⟩ ++ X), .string (X ++ ⟨#[33, 61]⟩ ++ Y), .string (⟨#[110, 111, 116, 32]⟩ ++ X ++ ⟨#[61]⟩ ++ Y), .string (⟨#[40]⟩ ++ X ++ ⟨#[45]⟩ ++ Y ++ ⟨#[41]⟩), .string (X ++ ⟨#[45]⟩ ++ Y), .string (X ++ ⟨#[111, 114]⟩ ++ Y), .string (⟨#[40]⟩ ++ X ++ ⟨#[111, 114]⟩ ++ Y ++ ⟨#[41]⟩), .string X, .string s] 42) = W := ⟨_, rfl⟩
  rw [hW5] at hb5 hc5 ⊢
  rw [hg] at hc5 ⊢
  have HP := Lib.hid (eq_pairs HR.out HR2.out hsn htn HX.out HY.out hXn hYn hc5)
  have HB5 := Lib.hid (bel_call HB4.out hb5)
  clear hb5 hc5 hg hW5 hsn htn hXn hYn HB4 HR HR2 HX HY
  go_wp2_with fail
  go_loopw [12] (fun t12 wr => ∃ k : Nat, k ≤ 6 ∧ t12 = .int .i64 k ∧ Below W5.heap.size W5 wr) (fun t12 _ => 6 - (intOf t12).toNat)
  case atStart => exact ⟨0, by omega, rfl, Below.refl _ _⟩
  case round =>
    obtain ⟨k, hk, rfl, hb⟩ := hrel
    have HBR := Lib.hid (bel_call HB5.out hb)
    have HPR := Lib.hid (HP.out.next hb)
    have HBK := Lib.hid hb
    clear hb
    by_cases hlt : k < 6
    · obtain ⟨a, b, z, er, h1, h2, h3, h4, h5, h6, h7⟩ := HPR.out k hlt
      have H5 := Lib.hid h5
      have H6 := Lib.hid h6
      have H7 := Lib.hid h7
      have hl2 := block_lt_of_cell h2
      have H2 := Lib.hid h2
      have hbs : b.size ≤ 9223372036854775807 := by omega
      clear h2 h5 h6 h7 h4
      go_wp2_with fail
      refine (both_any a wr (by omega)).mono ?_
      rintro e w6 ⟨A6, c6, he, hrd, hb⟩
      obtain ⟨⟨z1, er1, off1⟩, hp1⟩ : ∃ r, parseX (bts a) = r := ⟨_, rfl⟩
      have hq := H5.out
      rw [bothP, hp1] at hq
      rw [hp1] at he hrd
      injection hq with hq1 hq2
      simp only at hq1 hq2
      subst hq1 hq2
      subst he
      have HZ6 := Lib.hid (show KE w6 z1 (.slice A6 z1.kids.toList.length c6) from hrd)
      have HB6 := Lib.hid (bel_call HBK.out hb)
      have H26 := Lib.hid ((hb.cell hl2).trans H2.out)
      clear hb hrd hp1 h1 h3 hl2 H2
      go_upto_region 13 with fail
      have hb7 := (Below.refl w6.heap.size w6).alloc (Nat.le_refl _) (.cells #[.int .i64 z1.op, .int .i64 z1.n, .string (str z1.name), .slice A6 z1.kids.toList.length c6] 24)
      have hv7 := VarE.new_ HZ6.out
      obtain ⟨W7, hW7⟩ : ∃ W, w6.alloc (.cells #[.int .i64 z1.op, .int .i64 z1.n, .string (str z1.name), .slice A6 z1.kids.toList.length c6] 24) = W := ⟨_, rfl⟩
      rw [hW7] at hb7 hv7 ⊢
      have HB7 := Lib.hid (bel_call HB6.out hb7)
      have HV7 := Lib.hid hv7
      have h2 := (hb7.cell (block_lt_of_cell H26.out)).trans H26.out
      clear hb7 hv7 hW7 HB6 HZ6 H26
      go_wp2_with fail
      refine (both_any b W7 hbs).mono ?_
      rintro e w8 ⟨A8, c8, he, hrd, hb⟩
      obtain ⟨⟨z2, er2, off2⟩, hp1⟩ : ∃ r, parseX (bts b) = r := ⟨_, rfl⟩
      have hq := H6.out
      rw [bothP, hp1] at hq
      rw [hp1] at he hrd
      injection hq with hq1 hq2
      simp only at hq1 hq2
      subst hq1 hq2
      subst he
      have HZ8 := Lib.hid (show KE w8 z2 (.slice A8 z2.kids.toList.length c8) from hrd)
      have HB8 := Lib.hid (bel_call HB7.out hb)
      have HV8 := Lib.hid (HV7.out.next hb)
      clear hb hrd hp1 h2 HB7 HV7
      go_upto_region 14 with fail
      have hb9 := (Below.refl w8.heap.size w8).alloc (Nat.le_refl _) (.cells #[.int .i64 z2.op, .int .i64 z2.n, .string (str z2.name), .slice A8 z2.kids.toList.length c8] 24)
      have hv9 := VarE.new_ HZ8.out
      obtain ⟨W9, hW9⟩ : ∃ W, w8.alloc (.cells #[.int .i64 z2.op, .int .i64 z2.n, .string (str z2.name), .slice A8 z2.kids.toList.length c8] 24) = W := ⟨_, rfl⟩
      rw [hW9] at hb9 hv9 ⊢
      have HB9 := Lib.hid (bel_call HB8.out hb9)
      have HV9 := Lib.hid (HV8.out.next hb9)
      have HU9 := Lib.hid hv9
      clear hb9 hv9 hW9 HB8 HZ8 HV8
      obtain ⟨f0, f1, f2, f3⟩ := HV9.out.cells
      obtain ⟨g0, g1, g2, g3⟩ := HU9.out.cells
      have hee : (er2 != er2) = false := by simp
      rcases H7.out with h0 | h0
      all_goals
        subst h0
        go_wp2_with fail
        refine (same_any _ z2 z2 (Nat.le_refl _) A6 A8 c6 c8 _ HV9.out.2 HU9.out.2).mono ?_
        rintro e w10 ⟨he, hb⟩
        rw [decide_eq_true (rfl : z2 = z2)] at he
        subst he
        have HB10 := Lib.hid (bel_call HB9.out hb)
        clear hb f0 f1 f2 f3 g0 g1 g2 g3
        go_wp2_with fail
        exact ⟨⟨k + 1, by omega, by go_num, HB10.out⟩, by simp [intOf]; omega⟩
    · have hk6 : k = 6 := by omega
      subst hk6
      go_wp2_with fail
      refine (awake_any wr (HV.out.next HBR.out)).mono ?_
      rintro e w4 ⟨he, hb⟩
      subst he
      have HB4 := Lib.hid (bel_call HBR.out hb)
      clear hb
      go_wp2_with fail
      go_ret
      exact ⟨rfl, HB4.out⟩

end Go.Proofs.YtkalkglllgebkaaDoor
