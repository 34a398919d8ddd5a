/-
  RuletextShort walked.
  RuletextExprs walked.
-/
import Derived.Test.YtkalkglllgebkaaDoorRyV
import Derived.Test.YtkalkglllgebkaaDoorRyG
import Derived.Test.YtkalkglllgebkaaDoorRyH
import Derived.Test.YtkalkglllgebkaaDoorRzD
namespace Saw
theorem head_nm {o n : Int} {m : List UInt8} {k : Nat} (h : headP o n m k = true) : m.length ≤ 16 := by
  unfold headP at h
  rw [Bool.and_eq_true] at h
  have h2 := h.2
  by_cases ho : o = 2
  · rw [if_pos ho] at h2
    unfold namedP at h2
    rw [Bool.and_eq_true] at h2
    exact (isNameP_len h2.1).2
  · rw [if_neg ho, beq_iff_eq] at h2
    rw [h2]
    exact Nat.zero_le _
theorem formed_nmF : ∀ {f : Fo}, formedF f = true → nmF 16 f
  | .nil, _ => trivial
  | .cons _ _ _ _ _, h => by
    rw [formedF, Bool.and_eq_true, Bool.and_eq_true] at h
    exact ⟨head_nm h.1.1, formed_nmF h.1.2, formed_nmF h.2⟩
theorem nmF_mono {M M' : Nat} (hM : M ≤ M') : ∀ {f : Fo}, nmF M f → nmF M' f
  | .nil, _ => trivial
  | .cons _ _ _ _ _, h => ⟨Nat.le_trans h.1 hM, nmF_mono hM h.2.1, nmF_mono hM h.2.2⟩
theorem NmE.mono {M M' : Nat} {x : Ex} (h : NmE M x) (hM : M ≤ M') : NmE M' x := ⟨Nat.le_trans h.1 hM, nmF_mono hM h.2⟩
theorem well_nm {x : Ex} (h : wellP x = true) : NmE 1000000 x := by
  unfold wellP at h
  rw [Bool.and_eq_true] at h
  have h1 := h.1
  unfold formedE at h1
  rw [Bool.and_eq_true] at h1
  exact NmE.mono ⟨head_nm h1.1, formed_nmF h1.2⟩ (by decide)
theorem zero_nm : NmE 1000000 Ex.zero := ⟨by decide, trivial⟩
end Saw
namespace Go.Proofs.YtkalkglllgebkaaDoor
open Go.RowKit Saw Go.Sort

theorem rd_scan {w w' : World} {v : Value} {xs : List Lx} (h : OwnsLx w' w.heap.size v xs) : RdLx w' v xs := Rd.of_own h
theorem rdLx_next {w w' : World} {v : Value} {xs : List Lx} (h : RdLx w v xs) (hb : Below w.heap.size w w') : RdLx w' v xs := Rd.next h hb

set_option maxRecDepth 100000 in
set_option maxHeartbeats 2000000 in
theorem ruletextShort_walk (s : ByteArray) (w : World) (hs : s.size ≤ 9223372036854775807) (hv : VarsX w) :
    Calls Tryd.prog 9 #[.string s] w (LawX w) := by
  have HV := Lib.hid hv
  clear hv
  by_cases h3 : 3000 < (s.size : Int)
  · go_enter Tryd.func9, Tryd.ntmps9
    go_wp2_with fail
    refine (awake_any w HV.out).mono ?_
    rintro e w2 ⟨he, hb⟩
    subst he
    have HB := Lib.hid hb
    clear hb
    go_wp2_with fail
    go_ret
    exact ⟨rfl, HB.out⟩
  obtain ⟨r, hr⟩ : ∃ r, parseX (bts s) = r := ⟨_, rfl⟩
  obtain ⟨x, er, off⟩ := r
  obtain ⟨xs, er2, at2, hsc⟩ : ∃ xs er2 at2, scanP (bts s) = (xs, er2, at2) := ⟨_, _, _, rfl⟩
  have HR := Lib.hid hr
  have HSC := Lib.hid hsc
  have hxl : er = 0 → er2 = 0 := fun h => by
    subst h
    obtain ⟨_, _, xs', k, h1, _, _⟩ := parseX_ok hr
    rw [hsc] at h1
    injection h1 with _ h1
    injection h1
  have HXL := Lib.hid hxl
  clear hr hsc hxl
  go_enter Tryd.func9, Tryd.ntmps9
  go_wp2_with fail
  refine (both_any s w hs).mono ?_
  rintro e w1 ⟨A, c, he, hrd, hb⟩
  rw [HR.out] at he hrd
  subst he
  have HB1 := Lib.hid hb
  have HX1 := Lib.hid hrd
  clear hb hrd
  go_upto_region 4 with fail
  have hb2 := (Below.refl w1.heap.size w1).alloc (Nat.le_refl _) (.cells #[.int .i64 x.op, .int .i64 x.n, .string (str x.name), .slice A x.kids.toList.length c] 24)
  have hz := VarE.new_ (show KE w1 x (.slice A x.kids.toList.length c) from HX1.out)
  obtain ⟨g, hg⟩ : ∃ g, w1.heap.size = g := ⟨_, rfl⟩
  obtain ⟨W2, hW2⟩ : ∃ W, w1.alloc (.cells #[.int .i64 x.op, .int .i64 x.n, .string (str x.name), .slice A x.kids.toList.length c] 24) = W := ⟨_, rfl⟩
  rw [hW2] at hb2 hz ⊢
  have HB2 := Lib.hid (bel_call HB1.out hb2)
  rw [hg] at hz ⊢
  have HZ2 := Lib.hid hz
  clear hb2 hz hW2 hg HB1 HX1
  go_wp2_with fail
  refine (scan_any s W2 hs).mono ?_
  rintro e w3 ⟨va, he, ho, hb⟩
  rw [HSC.out] at he ho
  simp only at he ho
  subst he
  have hra := rd_scan ho
  obtain ⟨A3, c3, rfl, _, hml⟩ := hra.form
  unfold maxLen at hml
  have HRA := Lib.hid hra
  have HZ3 := Lib.hid (HZ2.out.next hb)
  have HB3 := Lib.hid (bel_call HB2.out hb)
  clear hb ho hra HZ2 HB2
  by_cases h0 : er = 0
  case neg =>
    have h0' : (er != 0) = true := by rw [bne_iff_ne]; exact h0
    clear h0
    go_wp2_with fail
    refine (awake_any w3 (HV.out.next HB3.out)).mono ?_
    rintro e w4 ⟨he, hb⟩
    subst he
    have HB4 := Lib.hid (bel_call HB3.out hb)
    clear hb
    go_wp2_with fail
    go_ret
    exact ⟨rfl, HB4.out⟩
  obtain rfl := HXL.out h0
  subst h0
  have hok := parseX_ok HR.out
  have HW := Lib.hid hok.2.1
  clear hok
  go_wp2_with fail
  go_loopw [8] (fun t8 wr => ∃ k : Nat, k ≤ xs.length ∧ t8 = .int .i64 k ∧ (∀ y ∈ xs.take k, ¬ (y.kind = 3 ∧ y.text = [33, 61])) ∧ Below w3.heap.size w3 wr) (fun t8 _ => xs.length - (intOf t8).toNat)
  case atStart => exact ⟨0, by omega, rfl, by simp, Below.refl _ _⟩
  case round =>
    obtain ⟨k, hk, rfl, hno, hb⟩ := hrel
    have HN := Lib.hid hno
    have HBR := Lib.hid hb
    have HZR := Lib.hid (HZ3.out.next hb)
    clear hno hb
    by_cases hlt : k < xs.length
    · have hx : xs[k]? = some xs[k] := List.getElem?_eq_getElem hlt
      have htk := List.take_succ_eq_append_getElem hlt
      obtain ⟨y, hye⟩ : ∃ y, xs[k] = y := ⟨_, rfl⟩
      rw [hye] at hx htk
      obtain ⟨b, o, rfl, hbl, q0, q1, _, _⟩ := (rdLx_next HRA.out HBR.out).at_ hx
      have HTK := Lib.hid htk
      clear hx htk hye hbl
      by_cases hkk : y.kind = 3
      · have hk1 : (y.kind == 3) = true := by rw [beq_iff_eq]; exact hkk
        by_cases htt : y.text = [33, 61]
        · have ht1 : ((str y.text).toList == [33, 61]) = true := by rw [toList_bts, bts_str, htt]; rfl
          clear htt hkk
          go_wp2_with fail
          refine (awake_any wr (HV.out.next (bel_call HB3.out HBR.out))).mono ?_
          rintro e w4 ⟨he, hb⟩
          subst he
          have HB4 := Lib.hid (bel_call (bel_call HB3.out HBR.out) hb)
          clear hb
          go_wp2_with fail
          go_ret
          exact ⟨rfl, HB4.out⟩
        · have ht1 : ((str y.text).toList == [33, 61]) = false := by rw [toList_bts, bts_str, beq_eq_false_iff_ne]; exact htt
          have HNN := Lib.hid (show ∀ z ∈ xs.take (k + 1), ¬ (z.kind = 3 ∧ z.text = [33, 61]) from fun z hz => by
            rw [HTK.out] at hz
            rcases List.mem_append.1 hz with hz | hz
            · exact HN.out z hz
            · rw [List.mem_singleton.1 hz]; exact fun hh => htt hh.2)
          clear htt hkk
          go_wp2_with fail
          exact ⟨⟨k + 1, by omega, by go_num, HNN.out, HBR.out⟩, by simp [intOf]; omega⟩
      · have hk1 : (y.kind == 3) = false := by rw [beq_eq_false_iff_ne]; exact hkk
        have HNN := Lib.hid (show ∀ z ∈ xs.take (k + 1), ¬ (z.kind = 3 ∧ z.text = [33, 61]) from fun z hz => by
          rw [HTK.out] at hz
          rcases List.mem_append.1 hz with hz | hz
          · exact HN.out z hz
          · rw [List.mem_singleton.1 hz]; exact fun hh => hkk hh.1)
        clear hkk
        go_wp2_with fail
        exact ⟨⟨k + 1, by omega, by go_num, HNN.out, HBR.out⟩, by simp [intOf]; omega⟩
    · have hkl : k = xs.length := by omega
      subst hkl
      have hsl := short_law HR.out (fun y hy => by rw [HSC.out] at hy; exact HN.out y (by rw [List.take_length]; exact hy))
      rw [HSC.out] at hsl
      obtain ⟨f0, f1, f2, f3⟩ := HZR.out.cells
      have HBW := Lib.hid (bel_call HB3.out HBR.out)
      obtain ⟨zs, er3, at3, hz3⟩ : ∃ zs er3 at3, scanP (exprP x) = (zs, er3, at3) := ⟨_, _, _, rfl⟩
      rw [hz3] at hsl
      obtain ⟨he3, hl1, hl2⟩ := hsl
      simp only at he3 hl1 hl2
      subst he3
      have HZ3' := Lib.hid hz3
      have hss : (str (exprP x)).size ≤ 9223372036854775807 := by
        have := tx_len8 HW.out
        rw [size_str, exprP, if_pos HW.out]
        omega
      clear hz3 HN
      go_wp2_with fail
      refine (expr_any x (well_nm HW.out) A c wr (HV.out.next HBW.out) HZR.out.2).mono ?_
      rintro e w5 ⟨he, hb⟩
      subst he
      have HB5 := Lib.hid (bel_call HBW.out hb)
      clear hb f0 f1 f2 f3
      go_wp2_with fail
      refine (scan_any (str (exprP x)) w5 hss).mono ?_
      rintro e w6 ⟨vb, he, ho, hb⟩
      rw [bts_str, HZ3'.out] at he ho
      simp only at he ho
      subst he
      have hrb := rd_scan ho
      obtain ⟨A6, c6, rfl, _, hml6⟩ := hrb.form
      unfold maxLen at hml6
      have HB6 := Lib.hid (bel_call HB5.out hb)
      clear hb ho hrb
      have g1 : (1 : Int) < (zs.length : Int) := by omega
      have g2 : (zs.length : Int) ≤ (xs.length : Int) := by omega
      go_wp2_with fail
      refine (awake_any w6 (HV.out.next HB6.out)).mono ?_
      rintro e w7 ⟨he, hb⟩
      subst he
      have HB7 := Lib.hid (bel_call HB6.out hb)
      clear hb
      go_wp2_with fail
      go_ret
      exact ⟨rfl, HB7.out⟩

end Go.Proofs.YtkalkglllgebkaaDoor

namespace Saw
theorem ndF_depth : ∀ (f : Fo) (d n : Int), d ≤ 41 → 1 ≤ n → ndF f d n ≤ 600 → (f.depth : Int) ≤ 41 - d
  | .nil, d, _, hd, _, _ => by simp only [Fo.depth]; omega
  | .cons o m nm k r, d, n, hd, h, hu => by
    rw [ndF] at hu
    by_cases h6 : n ≤ 600
    · rw [if_pos h6] at hu
      by_cases hc : 40 < d ∨ 20 < (k.toList.length : Int) ∨ 200 < (nm.length : Int)
      · rw [if_pos hc] at hu
        have := ndF_ge r d (n + 1000) (by omega)
        omega
      · rw [if_neg hc] at hu
        have h1 := ndF_ge k (d + 1) 1 (by decide)
        have h2 := ndF_ge r d (n + ndF k (d + 1) 1) (by omega)
        have h3 := ndF_depth k (d + 1) 1 (by omega) (by decide) (by omega)
        have h4 := ndF_depth r d _ hd (by omega) hu
        simp only [Fo.depth]
        omega
    · rw [if_neg h6] at hu; omega
theorem nodes_depth {x : Ex} (h : nodesP x 1 ≤ 600) : x.depth ≤ 1000000000 := by
  unfold nodesP at h
  by_cases hc : 40 < (1 : Int) ∨ 20 < (x.kids.toList.length : Int) ∨ 200 < (x.name.length : Int)
  · rw [if_pos hc] at h; omega
  · rw [if_neg hc] at h
    have := ndF_depth _ _ _ (by decide) (by decide) h
    unfold Ex.depth
    omega
theorem NmE.up {M M' : Nat} {x : Ex} (h : NmE M x) (hM : M ≤ M') : NmE M' x := by
  have hmono : ∀ f : Fo, nmF M f → nmF M' f := fun f => by
    induction f with
    | nil => exact fun _ => trivial
    | cons o n m k r ih1 ih2 => exact fun h => ⟨Nat.le_trans h.1 hM, ih1 h.2.1, ih2 h.2.2⟩
  exact ⟨Nat.le_trans h.1 hM, hmono _ h.2⟩
end Saw
namespace Go.Proofs.YtkalkglllgebkaaDoor
open Go.RowKit Saw Go.Sort

set_option maxRecDepth 100000 in
set_option maxHeartbeats 2000000 in
theorem ruletextExprs_walk (x : Ex) (A : Option Addr) (c : Nat) (w : World) (hx : ExArg w x A c) (hv : VarsX w) :
    Calls Tryd.prog 3 #[.agg #[.int .i64 x.op, .int .i64 x.n, .string (str x.name), .slice A x.kids.toList.length c]] w (LawX w) := by
  unfold ExArg at hx
  obtain ⟨_, _, _, hc1, hml⟩ := hx.form
  clear hc1
  unfold maxLen at hml
  have HX := Lib.hid hx
  have HV := Lib.hid hv
  clear hx hv
  have hB := bel_alloc (ob := .cells #[.int .i64 x.op, .int .i64 x.n, .string (str x.name), .slice A x.kids.toList.length c] 24) (Below.refl w.heap.size w)
  have hR1 := heap_alloc_last w (.cells #[.int .i64 x.op, .int .i64 x.n, .string (str x.name), .slice A x.kids.toList.length c] 24)
  go_enter Tryd.func3, Tryd.ntmps3
  go_upto_region 1 with fail
  obtain ⟨n0, hn0⟩ : ∃ n, w.heap.size = n := ⟨_, rfl⟩
  obtain ⟨W0, hW0⟩ : ∃ W, w.alloc (.cells #[.int .i64 x.op, .int .i64 x.n, .string (str x.name), .slice A x.kids.toList.length c] 24) = W := ⟨_, rfl⟩
  rw [hW0] at hB hR1 ⊢
  have HX0 := Lib.hid (HX.out.next hB)
  have HV0 := Lib.hid (HV.out.next hB)
  have HB := Lib.hid hB
  rw [hn0] at hR1 ⊢
  have hv0 : VarE W0 n0 x (.slice A x.kids.toList.length c) := ⟨hR1, HX0.out⟩
  have HE0 := Lib.hid hv0
  have HG0 := Lib.hid hv0.at_
  clear hB hR1 hW0 hn0 HX HV hv0 HX0
  go_wp2_with (first
    | ((with_reducible refine ex_load n0 0 x (.slice A x.kids.toList.length c) ?hx HG0.out ?_); (case hx => rfl)))
  refine (nodes_any _ x (Nat.le_refl _) 1 A c W0 (by decide) (by decide) HE0.out.2).mono ?_
  rintro e w1 ⟨he, hb⟩
  obtain ⟨p, hp⟩ : ∃ p, nodesP x 1 = p := ⟨_, rfl⟩
  rw [hp] at he
  subst he
  have HV1 := Lib.hid (HV0.out.next hb)
  have HB1 := Lib.hid (bel_call HB.out hb)
  have HE1 := Lib.hid (HE0.out.next hb)
  have HG1 := Lib.hid (HE0.out.next hb).at_
  have HNP := Lib.hid hp
  clear hb HV0 HB HE0 HG0 hp
  by_cases h6 : 600 < p
  · go_wp2_with fail
    refine (awake_any w1 HV1.out).mono ?_
    rintro e w2 ⟨he, hb⟩
    subst he
    have HB2 := Lib.hid (bel_call HB1.out hb)
    clear hb
    go_wp2_with fail
    go_ret
    exact ⟨rfl, HB2.out⟩
  have HNM := Lib.hid (NmE.up (nodes_nm (x := x) (d := 1) (by rw [HNP.out]; omega)) (show 200 ≤ 1000000 by decide))
  have HDP := Lib.hid (nodes_depth (x := x) (by rw [HNP.out]; omega))
  clear HNP
  go_wp2_with (first
    | ((with_reducible refine ex_load n0 0 x (.slice A x.kids.toList.length c) ?hx HG1.out ?_); (case hx => rfl)))
  refine (expr_any x HNM.out A c w1 HV1.out HE1.out.2).mono ?_
  rintro e w2 ⟨he, hb⟩
  obtain ⟨s, hs⟩ : ∃ s, exprP x = s := ⟨_, rfl⟩
  rw [hs] at he
  subst he
  have HV2 := Lib.hid (HV1.out.next hb)
  have HB2 := Lib.hid (bel_call HB1.out hb)
  have HE2 := Lib.hid (HE1.out.next hb)
  have HG2 := Lib.hid (HE1.out.next hb).at_
  have HS := Lib.hid hs
  clear hb HV1 HB1 HE1 HG1 hs
  go_wp2_with (first
    | ((with_reducible refine ex_load n0 0 x (.slice A x.kids.toList.length c) ?hx HG2.out ?_); (case hx => rfl)))
  refine (rexpr_any x HNM.out HDP.out A c w2 HE2.out.2).mono ?_
  rintro e w3 ⟨he, hb⟩
  rw [HS.out] at he
  subst he
  have HV3 := Lib.hid (HV2.out.next hb)
  have HB3 := Lib.hid (bel_call HB2.out hb)
  have HE3 := Lib.hid (HE2.out.next hb)
  clear hb HV2 HB2 HE2 HG2
  obtain ⟨q, hq⟩ : ∃ q, wellP x = q := ⟨_, rfl⟩
  have hemp : (str s).toList.isEmpty = !q := by rw [toList_bts, bts_str, ← HS.out, expr_nil, hq]
  have HQ := Lib.hid hq
  clear hq
  cases q with
  | false =>
    go_wp2_with fail
    refine (awake_any w3 HV3.out).mono ?_
    rintro e w4 ⟨he, hb⟩
    subst he
    have HB4 := Lib.hid (bel_call HB3.out hb)
    clear hb
    go_wp2_with fail
    go_ret
    exact ⟨rfl, HB4.out⟩
  | true =>
    have HP := Lib.hid (parse_expr HQ.out)
    have hsz : (str s).size ≤ 9223372036854775807 := by
      have := tx_len8 HQ.out
      rw [size_str, ← HS.out, exprP, if_pos HQ.out]
      omega
    rw [HS.out] at HP
    go_wp2_with fail
    refine (parseX_any (str s) w3 hsz).mono ?_
    rintro e w4 ⟨A4, c4, he, hrd, hb⟩
    rw [bts_str, HP.out] at he hrd
    subst he
    have HZ4 := Lib.hid (show KE w4 x (.slice A4 x.kids.toList.length c4) from hrd.more fun b hb => ⟨Nat.zero_le _, hb.2⟩)
    have HV4 := Lib.hid (HV3.out.next hb)
    have HB4 := Lib.hid (bel_call HB3.out hb)
    have HE4 := Lib.hid (HE3.out.next hb)
    clear hb hrd HV3 HB3 HE3 hemp hsz
    go_upto_region 9 with fail
    have hb5 := (Below.refl w4.heap.size w4).alloc (Nat.le_refl _) (.cells #[.int .i64 x.op, .int .i64 x.n, .string (str x.name), .slice A4 x.kids.toList.length c4] 24)
    have hz5 := VarE.new_ HZ4.out
    obtain ⟨g, hg⟩ : ∃ g, w4.heap.size = g := ⟨_, rfl⟩
    obtain ⟨W5, hW5⟩ : ∃ W, w4.alloc (.cells #[.int .i64 x.op, .int .i64 x.n, .string (str x.name), .slice A4 x.kids.toList.length c4] 24) = W := ⟨_, rfl⟩
    rw [hW5] at hb5 hz5 ⊢
    have HV5 := Lib.hid (HV4.out.next hb5)
    have HB5 := Lib.hid (bel_call HB4.out hb5)
    have HE5 := Lib.hid (HE4.out.next hb5)
    rw [hg] at hz5 ⊢
    have HZ5 := Lib.hid hz5
    have HG5 := Lib.hid hz5.at_
    have HG6 := Lib.hid HE5.out.at_
    clear hb5 hz5 hg hW5 HV4 HB4 HE4 HZ4
    go_wp2_with (first
      | ((with_reducible refine ex_load n0 0 x (.slice A x.kids.toList.length c) ?hx HG6.out ?_); (case hx => rfl))
      | ((with_reducible refine ex_load g 0 x (.slice A4 x.kids.toList.length c4) ?hx HG5.out ?_); (case hx => rfl)))
    refine (rsame_any _ x x (Nat.le_refl _) A4 A c4 c W5 HZ5.out.2 HE5.out.2).mono ?_
    rintro e w6 ⟨he, hb⟩
    rw [decide_eq_true (rfl : x = x)] at he
    subst he
    have HV6 := Lib.hid (HV5.out.next hb)
    have HB6 := Lib.hid (bel_call HB5.out hb)
    clear hb
    go_wp2_with fail
    refine (awake_any w6 HV6.out).mono ?_
    rintro e w7 ⟨he, hb⟩
    subst he
    have HB7 := Lib.hid (bel_call HB6.out hb)
    clear hb
    go_wp2_with fail
    go_ret
    exact ⟨rfl, HB7.out⟩

end Go.Proofs.YtkalkglllgebkaaDoor
