/-
  RuletextExprs walked.
-/
import Derived.Test.YtkalkglllgebkaaDoorRyV
import Derived.Test.YtkalkglllgebkaaDoorRyG
import Derived.Test.YtkalkglllgebkaaDoorRyH
import Derived.Test.YtkalkglllgebkaaDoorRzD
namespace Saw
theorem ndF_depth : ∀ (f : Fo) (d n : Int), d ≤ 41 → 1 ≤ n → ndF f d n ≤ 600 → (f.depth : Int) ≤ 41 - d
  | .nil, d, _, hd, _, _ => by simp only [Fo.depth]; omega
  | .cons o m nm k r, d, n, hd, h, hu => by
    rw [ndF] at hu
    by_cases h6 : n ≤ 600
    · rw [if_pos h6] at hu
      by_cases hc : 40 < d ∨ 20 < (k.toList.length : Int) ∨ 200 < (nm.length : Int)
      · rw [if_pos hc] at hu
        have := ndF_ge r d (n + 1000) (by omega)
        omega
      · rw [if_neg hc] at hu
        have h1 := ndF_ge k (d + 1) 1 (by decide)
        have h2 := ndF_ge r d (n + ndF k (d + 1) 1) (by omega)
        have h3 := ndF_depth k (d + 1) 1 (by omega) (by decide) (by omega)
        have h4 := ndF_depth r d _ hd (by omega) hu
        simp only [Fo.depth]
        omega
    · rw [if_neg h6] at hu; omega
theorem nodes_depth {x : Ex} (h : nodesP x 1 ≤ 600) : x.depth ≤ 1000000000 := by
  unfold nodesP at h
  by_cases hc : 40 < (1 : Int) ∨ 20 < (x.kids.toList.length : Int) ∨ 200 < (x.name.length : Int)
  · rw [if_pos hc] at h; omega
  · rw [if_neg hc] at h
    have := ndF_depth _ _ _ (by decide) (by decide) h
    unfold Ex.depth
    omega
theorem NmE.up {M M' : Nat} {x : Ex} (h : NmE M x) (hM : M ≤ M') : NmE M' x := by
  have hmono : ∀ f : Fo, nmF M f → nmF M' f := fun f => by
    induction f with
    | nil => exact fun _ => trivial
    | cons o n m k r ih1 ih2 => exact fun h => ⟨Nat.le_trans h.1 hM, ih1 h.2.1, ih2 h.2.2⟩
  exact ⟨Nat.le_trans h.1 hM, hmono _ h.2⟩
end Saw
namespace Go.Proofs.YtkalkglllgebkaaDoor
open Go.RowKit Saw Go.Sort

set_option maxRecDepth 100000 in
set_option maxHeartbeats 2000000 in
theorem ruletextExprs_walk (x : Ex) (A : Option Addr) (c : Nat) (w : World) (hx : ExArg w x A c) (hv : VarsX w) :
    Calls Tryd.prog 3 #[.agg #[.int .i64 x.op, .int .i64 x.n, .string (str x.name), .slice A x.kids.toList.length c]] w (LawX w) := by
  unfold ExArg at hx
  obtain ⟨_, _, _, hc1, hml⟩ := hx.form
  clear hc1
  unfold maxLen at hml
  have HX := Lib.hid hx
  have HV := Lib.hid hv
  clear hx hv
  have hB := bel_alloc (ob := .cells #[.int .i64 x.op, .int .i64 x.n, .string (str x.name), .slice A x.kids.toList.length c] 24) (Below.refl w.heap.size w)
  have hR1 := heap_alloc_last w (.cells #[.int .i64 x.op, .int .i64 x.n, .string (str x.name), .slice A x.kids.toList.length c] 24)
  go_enter Tryd.func3, Tryd.ntmps3
  go_upto_region 1 with fail
  obtain ⟨n0, hn0⟩ : ∃ n, w.heap.size = n := ⟨_, rfl⟩
  obtain ⟨W0, hW0⟩ : ∃ W, w.alloc (.cells #[.int .i64 x.op, .int .i64 x.n, .string (str x.name), .slice A x.kids.toList.length c] 24) = W := ⟨_, rfl⟩
  rw [hW0] at hB hR1 ⊢
  have HX0 := Lib.hid (HX.out.next hB)
  have HV0 := Lib.hid (HV.out.next hB)
  have HB := Lib.hid hB
  rw [hn0] at hR1 ⊢
  have hv0 : VarE W0 n0 x (.slice A x.kids.toList.length c) := ⟨hR1, HX0.out⟩
  have HE0 := Lib.hid hv0
  have HG0 := Lib.hid hv0.at_
  clear hB hR1 hW0 hn0 HX HV hv0 HX0
  go_wp2_with (first
    | ((with_reducible refine ex_load n0 0 x (.slice A x.kids.toList.length c) ?hx HG0.out ?_); (case hx => rfl)))
  refine (nodes_any _ x (Nat.le_refl _) 1 A c W0 (by decide) (by decide) HE0.out.2).mono ?_
  rintro e w1 ⟨he, hb⟩
  obtain ⟨p, hp⟩ : ∃ p, nodesP x 1 = p := ⟨_, rfl⟩
  rw [hp] at he
  subst he
  have HV1 := Lib.hid (HV0.out.next hb)
  have HB1 := Lib.hid (bel_call HB.out hb)
  have HE1 := Lib.hid (HE0.out.next hb)
  have HG1 := Lib.hid (HE0.out.next hb).at_
  have HNP := Lib.hid hp
  clear hb HV0 HB HE0 HG0 hp
  by_cases h6 : 600 < p
  · go_wp2_with fail
    refine (awake_any w1 HV1.out).mono ?_
    rintro e w2 ⟨he, hb⟩
    subst he
    have HB2 := Lib.hid (bel_call HB1.out hb)
    clear hb
    go_wp2_with fail
    go_ret
    exact ⟨rfl, HB2.out⟩
  have HNM := Lib.hid (NmE.up (nodes_nm (x := x) (d := 1) (by rw [HNP.out]; omega)) (show 200 ≤ 1000000 by decide))
  have HDP := Lib.hid (nodes_depth (x := x) (by rw [HNP.out]; omega))
  clear HNP
  go_wp2_with (first
    | ((with_reducible refine ex_load n0 0 x (.slice A x.kids.toList.length c) ?hx HG1.out ?_); (case hx => rfl)))
  refine (expr_any x HNM.out A c w1 HV1.out HE1.out.2).mono ?_
  rintro e w2 ⟨he, hb⟩
  obtain ⟨s, hs⟩ : ∃ s, exprP x = s := ⟨_, rfl⟩
  rw [hs] at he
  subst he
  have HV2 := Lib.hid (HV1.out.next hb)
  have HB2 := Lib.hid (bel_call HB1.out hb)
  have HE2 := Lib.hid (HE1.out.next hb)
  have HG2 := Lib.hid (HE1.out.next hb).at_
  have HS := Lib.hid hs
  clear hb HV1 HB1 HE1 HG1 hs
  go_wp2_with (first
    | ((with_reducible refine ex_load n0 0 x (.slice A x.kids.toList.length c) ?hx HG2.out ?_); (case hx => rfl)))
  refine (rexpr_any x HNM.out HDP.out A c w2 HE2.out.2).mono ?_
  rintro e w3 ⟨he, hb⟩
  rw [HS.out] at he
  subst he
  have HV3 := Lib.hid (HV2.out.next hb)
  have HB3 := Lib.hid (bel_call HB2.out hb)
  have HE3 := Lib.hid (HE2.out.next hb)
  clear hb HV2 HB2 HE2 HG2
  obtain ⟨q, hq⟩ : ∃ q, wellP x = q := ⟨_, rfl⟩
  have hemp : (str s).toList.isEmpty = !q := by rw [toList_bts, bts_str, ← HS.out, expr_nil, hq]
  have HQ := Lib.hid hq
  clear hq
  cases q with
  | false =>
    go_wp2_with fail
    refine (awake_any w3 HV3.out).mono ?_
    rintro e w4 ⟨he, hb⟩
    subst he
    have HB4 := Lib.hid (bel_call HB3.out hb)
    clear hb
    go_wp2_with fail
    go_ret
    exact ⟨rfl, HB4.out⟩
  | true =>
    have HP := Lib.hid (parse_expr HQ.out)
    have hsz : (str s).size ≤ 9223372036854775807 := by
      have := tx_len8 HQ.out
      rw [size_str, ← HS.out, exprP, if_pos HQ.out]
      omega
    rw [HS.out] at HP
    go_wp2_with fail
    refine (parseX_any (str s) w3 hsz).mono ?_
    rintro e w4 ⟨A4, c4, he, hrd, hb⟩
    rw [bts_str, HP.out] at he hrd
    subst he
    have HZ4 := Lib.hid (show KE w4 x (.slice A4 x.kids.toList.length c4) from hrd.more fun b hb => ⟨Nat.zero_le _, hb.2⟩)
    have HV4 := Lib.hid (HV3.out.next hb)
    have HB4 := Lib.hid (bel_call HB3.out hb)
    have HE4 := Lib.hid (HE3.out.next hb)
    clear hb hrd HV3 HB3 HE3 hemp hsz
    go_upto_region 9 with fail
    have hb5 := (Below.refl w4.heap.size w4).alloc (Nat.le_refl _) (.cells #[.int .i64 x.op, .int .i64 x.n, .string (str x.name), .slice A4 x.kids.toList.length c4] 24)
    have hz5 := VarE.new_ HZ4.out
    obtain ⟨g, hg⟩ : ∃ g, w4.heap.size = g := ⟨_, rfl⟩
    obtain ⟨W5, hW5⟩ : ∃ W, w4.alloc (.cells #[.int .i64 x.op, .int .i64 x.n, .string (str x.name), .slice A4 x.kids.toList.length c4] 24) = W := ⟨_, rfl⟩
    rw [hW5] at hb5 hz5 ⊢
    have HV5 := Lib.hid (HV4.out.next hb5)
    have HB5 := Lib.hid (bel_call HB4.out hb5)
    have HE5 := Lib.hid (HE4.out.next hb5)
    rw [hg] at hz5 ⊢
    have HZ5 := Lib.hid hz5
    have HG5 := Lib.hid hz5.at_
    have HG6 := Lib.hid HE5.out.at_
    clear hb5 hz5 hg hW5 HV4 HB4 HE4 HZ4
    go_wp2_with (first
      | ((with_reducible refine ex_load n0 0 x (.slice A x.kids.toList.length c) ?hx HG6.out ?_); (case hx => rfl))
      | ((with_reducible refine ex_load g 0 x (.slice A4 x.kids.toList.length c4) ?hx HG5.out ?_); (case hx => rfl)))
    refine (rsame_any _ x x (Nat.le_refl _) A4 A c4 c W5 HZ5.out.2 HE5.out.2).mono ?_
    rintro e w6 ⟨he, hb⟩
    rw [decide_eq_true (rfl : x = x)] at he
    subst he
    have HV6 := Lib.hid (HV5.out.next hb)
    have HB6 := Lib.hid (bel_call HB5.out hb)
    clear hb
    go_wp2_with fail
    refine (awake_any w6 HV6.out).mono ?_
    rintro e w7 ⟨he, hb⟩
    subst he
    have HB7 := Lib.hid (bel_call HB6.out hb)
    clear hb
    go_wp2_with fail
    go_ret
    exact ⟨rfl, HB7.out⟩

end Go.Proofs.YtkalkglllgebkaaDoor
