/-
  The law RuletextReads, walked: what ParseExpr reads is what the reference reads, and its text is read as the same.
-/
import Derived.Test.YtkalkglllgebkaaDoorRLaw4
import Derived.Test.YtkalkglllgebkaaDoorRzL
import Derived.Test.YtkalkglllgebkaaDoorRzS
namespace Go.Proofs.YtkalkglllgebkaaDoor
open Go.RowKit Saw Go.Sort

set_option maxRecDepth 100000 in
set_option maxHeartbeats 2000000 in
theorem ruletextReads_walk (s : ByteArray) (w : World) (hs : s.size ≤ 9223372036854775807) (hv : VarsX w) :
    Calls Tryd.prog 4 #[.string s] w (LawX w) := by
  have HV := Lib.hid hv
  clear hv
  by_cases h3 : 9000 < (s.size : Int)
  · go_enter Tryd.func4, Tryd.ntmps4
    go_wp2_with fail
    refine (awake_any w HV.out).mono ?_
    rintro e w2 ⟨he, hb⟩
    subst he
    have HB := Lib.hid hb
    clear hb
    go_wp2_with fail
    go_ret
    exact ⟨rfl, HB.out⟩
  obtain ⟨r, hr⟩ : ∃ r, parseX (bts s) = r := ⟨_, rfl⟩
  obtain ⟨x, er, off⟩ := r
  have HR := Lib.hid hr
  clear hr
  go_enter Tryd.func4, Tryd.ntmps4
  go_wp2_with fail
  refine (parseX_any s w hs).mono ?_
  rintro e w1 ⟨A, c, he, hrd, hb⟩
  rw [HR.out] at he hrd
  subst he
  have HB1 := Lib.hid hb
  have HX1 := Lib.hid (show KE w1 x (.slice A x.kids.toList.length c) from hrd.more fun b hb => ⟨Nat.zero_le _, hb.2⟩)
  clear hb hrd
  go_upto_region 4 with fail
  have hb2 := (Below.refl w1.heap.size w1).alloc (Nat.le_refl _) (.cells #[.int .i64 x.op, .int .i64 x.n, .string (str x.name), .slice A x.kids.toList.length c] 24)
  have hz := VarE.new_ HX1.out
  obtain ⟨g, hg⟩ : ∃ g, w1.heap.size = g := ⟨_, rfl⟩
  obtain ⟨W2, hW2⟩ : ∃ W, w1.alloc (.cells #[.int .i64 x.op, .int .i64 x.n, .string (str x.name), .slice A x.kids.toList.length c] 24) = W := ⟨_, rfl⟩
  rw [hW2] at hb2 hz ⊢
  have HB2 := Lib.hid (bel_call HB1.out hb2)
  rw [hg] at hz ⊢
  have HZ2 := Lib.hid hz
  clear hb2 hz hW2 hg HB1 HX1
  go_wp2_with fail
  refine (rparseX_any s W2 hs).mono ?_
  rintro e w3 ⟨A3, c3, he, hrd, hb⟩
  rw [HR.out] at he hrd
  subst he
  have HB3 := Lib.hid (bel_call HB2.out hb)
  have HZ3 := Lib.hid (HZ2.out.next hb)
  have HX3 := Lib.hid (show KE w3 x (.slice A3 x.kids.toList.length c3) from hrd.more fun b hb => ⟨Nat.zero_le _, hb.2⟩)
  clear hb hrd HB2 HZ2
  go_upto_region 5 with fail
  have hb4 := (Below.refl w3.heap.size w3).alloc (Nat.le_refl _) (.cells #[.int .i64 x.op, .int .i64 x.n, .string (str x.name), .slice A3 x.kids.toList.length c3] 24)
  have hz := VarE.new_ HX3.out
  obtain ⟨g3, hg3⟩ : ∃ g, w3.heap.size = g := ⟨_, rfl⟩
  obtain ⟨W4, hW4⟩ : ∃ W, w3.alloc (.cells #[.int .i64 x.op, .int .i64 x.n, .string (str x.name), .slice A3 x.kids.toList.length c3] 24) = W := ⟨_, rfl⟩
  rw [hW4] at hb4 hz ⊢
  have HB4 := Lib.hid (bel_call HB3.out hb4)
  have HY4 := Lib.hid (HZ3.out.next hb4)
  rw [hg3] at hz ⊢
  have HZ4 := Lib.hid hz
  have HGY := Lib.hid HY4.out.at_
  have HGZ := Lib.hid hz.at_
  clear hb4 hz hW4 hg3 HB3 HX3 HZ3
  have hee : (er != er) = false := by rw [bne_eq_false_iff_eq]
  have hoo : (off != off) = false := by rw [bne_eq_false_iff_eq]
  go_wp2_with (first
    | ((with_reducible refine ex_load g 0 x (.slice A x.kids.toList.length c) ?hx HGY.out ?_); (case hx => rfl))
    | ((with_reducible refine ex_load g3 0 x (.slice A3 x.kids.toList.length c3) ?hx HGZ.out ?_); (case hx => rfl)))
  refine (rsame_any _ x x (Nat.le_refl _) A A3 c c3 W4 HY4.out.2 HZ4.out.2).mono ?_
  rintro e w5 ⟨he, hb⟩
  rw [decide_eq_true (rfl : x = x)] at he
  subst he
  have HB5 := Lib.hid (bel_call HB4.out hb)
  have HY5 := Lib.hid (HY4.out.next hb)
  clear hb HB4 HY4 HZ4 HGY HGZ
  by_cases h0 : er = 0
  case neg =>
    have h0' : (er != 0) = true := by rw [bne_iff_ne]; exact h0
    clear h0
    go_wp2_with fail
    refine (awake_any w5 (HV.out.next HB5.out)).mono ?_
    rintro e w6 ⟨he, hb⟩
    subst he
    have HB6 := Lib.hid (bel_call HB5.out hb)
    clear hb
    go_wp2_with fail
    go_ret
    exact ⟨rfl, HB6.out⟩
  subst h0
  have hok := parseX_ok HR.out
  have HW := Lib.hid hok.2.1
  clear hok
  have HG5 := Lib.hid HY5.out.at_
  go_wp2_with (first
    | ((with_reducible refine ex_load g 0 x (.slice A x.kids.toList.length c) ?hx HG5.out ?_); (case hx => rfl)))
  refine (expr_any x (well_nm HW.out) A c w5 (HV.out.next HB5.out) HY5.out.2).mono ?_
  rintro e w6 ⟨he, hb⟩
  subst he
  have HB6 := Lib.hid (bel_call HB5.out hb)
  have HY6 := Lib.hid (HY5.out.next hb)
  have HP := Lib.hid (parse_expr HW.out)
  have hss : (str (exprP x)).size ≤ 9223372036854775807 := by
    have := tx_len8 HW.out
    rw [size_str, exprP, if_pos HW.out]
    omega
  clear hb HB5 HY5 HG5
  go_wp2_with fail
  refine (parseX_any (str (exprP x)) w6 hss).mono ?_
  rintro e w7 ⟨A7, c7, he, hrd, hb⟩
  rw [bts_str, HP.out] at he hrd
  subst he
  have HB7 := Lib.hid (bel_call HB6.out hb)
  have HY7 := Lib.hid (HY6.out.next hb)
  have HX7 := Lib.hid (show KE w7 x (.slice A7 x.kids.toList.length c7) from hrd.more fun b hb => ⟨Nat.zero_le _, hb.2⟩)
  clear hb hrd HB6 HY6
  go_upto_region 10 with fail
  have hb8 := (Below.refl w7.heap.size w7).alloc (Nat.le_refl _) (.cells #[.int .i64 x.op, .int .i64 x.n, .string (str x.name), .slice A7 x.kids.toList.length c7] 24)
  have hz := VarE.new_ HX7.out
  obtain ⟨g7, hg7⟩ : ∃ g, w7.heap.size = g := ⟨_, rfl⟩
  obtain ⟨W8, hW8⟩ : ∃ W, w7.alloc (.cells #[.int .i64 x.op, .int .i64 x.n, .string (str x.name), .slice A7 x.kids.toList.length c7] 24) = W := ⟨_, rfl⟩
  rw [hW8] at hb8 hz ⊢
  have HB8 := Lib.hid (bel_call HB7.out hb8)
  have HY8 := Lib.hid (HY7.out.next hb8)
  rw [hg7] at hz ⊢
  have HZ8 := Lib.hid hz
  obtain ⟨f0, f1, f2, f3⟩ := HY8.out.cells
  obtain ⟨e0, e1, e2, e3⟩ := hz.cells
  clear hb8 hz hW8 hg7 HB7 HX7 HY7
  go_wp2_with fail
  refine (rsame_any _ x x (Nat.le_refl _) A7 A c7 c W8 HZ8.out.2 HY8.out.2).mono ?_
  rintro e w9 ⟨he, hb⟩
  rw [decide_eq_true (rfl : x = x)] at he
  subst he
  have HB9 := Lib.hid (bel_call HB8.out hb)
  clear hb
  go_wp2_with fail
  refine (awake_any w9 (HV.out.next HB9.out)).mono ?_
  rintro e w10 ⟨he, hb⟩
  subst he
  have HB10 := Lib.hid (bel_call HB9.out hb)
  clear hb
  go_wp2_with fail
  go_ret
  exact ⟨rfl, HB10.out⟩

end Go.Proofs.YtkalkglllgebkaaDoor
