/-
  PatternTexts and PatternParses walked.
-/
import Derived.Test.YtbmcfodhjibooaaDoorPsB
import Derived.Test.YtbmcfodhjibooaaDoorPbJ
import Derived.Test.YtbmcfodhjibooaaDoorPbH
import Derived.Test.YtbmcfodhjibooaaDoorLexG
namespace Saw
theorem formatPt_read {r : Rc} {ns : List Nd} (h : formatPt r ns ≠ []) : parsePt (formatPt r ns) = ((r, ns), 0, 0) := by
  unfold formatPt at h ⊢
  by_cases hw : wellPt r ns = true
  · rw [if_pos hw]
    obtain ⟨hf, hd0, hd64, hlim⟩ := wellPt_iff.1 hw
    obtain ⟨t, ho, e, hdd, hln⟩ := depth_tree hd0
    rw [e, treeOf_nodes ho]
    exact parsePt_text hf ho (by omega) (by rw [← e]; exact hln) (fun n hn => hlim n (by rw [e]; exact hn))
  · rw [if_neg hw] at h
    exact absurd rfl h
theorem formatPt_ok {r : Rc} {t : Tr} (hf : frameP r = true) (ho : t.ok = true) (hd : t.depth ≤ 64) (hl : t.nodes.length ≤ 127) (hn : ∀ n ∈ t.nodes, inLim n = true) : formatPt r t.nodes = textPt r t := by
  have h1 := tree_depth ho hl
  have h2 := Tr.depth_pos t
  have hw : wellPt r t.nodes = true := wellPt_iff.2 ⟨hf, by rw [h1]; omega, by rw [h1]; exact hd, hn⟩
  rw [formatPt, if_pos hw, treeOf_nodes ho]
end Saw
namespace Go.Proofs.YtbmcfodhjibooaaDoor
open Go.RowKit Saw Go.Sort

theorem formatPt_len (r : Rc) (ns : List Nd) : (formatPt r ns).length ≤ 9223372036854775807 := by
  unfold formatPt
  by_cases hw : wellPt r ns = true
  · rw [if_pos hw]
    obtain ⟨hf, hd0, hd64, hlim⟩ := wellPt_iff.1 hw
    obtain ⟨t, ho, e, hdd, hln⟩ := depth_tree hd0
    obtain ⟨f1, f2, f3, f4, f5, f6⟩ := frameP_iff.1 hf
    have h := strT_len t (fun n hn => hlim n (by rw [e]; exact hn))
    rw [← e] at h
    have g1 := itoa_len4 r.xa (by omega) (by omega)
    have g2 := itoa_len4 r.xb (by omega) (by omega)
    have g3 := itoa_len4 r.ya (by omega) (by omega)
    have g4 := itoa_len4 r.yb (by omega) (by omega)
    rw [e, treeOf_nodes ho, formatT ho]
    simp only [List.length_append, List.length_cons, List.length_nil]
    omega
  · rw [if_neg hw]
    exact Nat.zero_le _

set_option maxRecDepth 100000 in
set_option maxHeartbeats 4000000 in
theorem patternTexts_walk (r : Rc) (ns : List Nd) (A : Option Addr) (c : Nat) (w : World) (hns : RdNd w w.heap.size (.slice A ns.length c) ns) (hv : VarsX w) :
    Calls Tryd.prog 6 #[.agg #[.int .i64 r.xa, .int .i64 r.xb, .int .i64 r.ya, .int .i64 r.yb, .slice A ns.length c]] w (LawX w) := by
  obtain ⟨_, _, _, _, hml⟩ := hns.form
  unfold maxLen at hml
  have HV := Lib.hid hv
  have HNS := Lib.hid hns
  obtain ⟨W0, hW0⟩ : ∃ W0, w.alloc (.cells #[.int .i64 r.xa, .int .i64 r.xb, .int .i64 r.ya, .int .i64 r.yb, .slice A ns.length c] 28) = W0 := ⟨_, rfl⟩
  have hb0 : Below w.heap.size w W0 := by rw [← hW0]; exact bel_alloc (Below.refl _ _)
  have hp0 : PatAt W0 w.heap.size r (.slice A ns.length c) := by rw [← hW0]; exact heap_alloc_last w _
  have HB0 := Lib.hid hb0
  have HP0 := Lib.hid hp0
  obtain ⟨p0, p1, p2, p3, p4⟩ := cells5 hp0
  clear hb0 hp0 hns hv
  go_enter Tryd.func6, Tryd.ntmps6
  by_cases h300 : 300 < (ns.length : Int)
  · go_wp2_with fail
    refine (awake_any W0 (HV.out.next HB0.out)).mono ?_
    rintro e w1 ⟨he, hb1⟩
    subst he
    have HB1 := Lib.hid (bel_call HB0.out hb1)
    clear hb1
    go_wp2_with fail
    go_ret
    exact ⟨rfl, HB1.out⟩
  obtain ⟨F, hF⟩ : ∃ F, formatPt r ns = F := ⟨_, rfl⟩
  have HF := Lib.hid hF
  have HFL := Lib.hid (hF ▸ formatPt_len r ns)
  clear hF
  go_wp2_with fail
  refine (format_any r ns (.slice A ns.length c) W0 (HNS.out.next HB0.out) (HV.out.next HB0.out).1 (HV.out.next HB0.out).2).mono ?_
  rintro e w1 ⟨he, hb1⟩
  rw [HF.out] at he
  subst he
  have HP1 := Lib.hid ((hb1.block w.heap.size (Array.getElem?_eq_some_iff.1 HP0.out).1).trans HP0.out)
  have HB1 := Lib.hid (bel_call HB0.out hb1)
  clear hb1 p0 p1 p2 p3 p4
  obtain ⟨p0, p1, p2, p3, p4⟩ := cells5 HP1.out
  go_wp2_with fail
  refine (rformat_any r ns (.slice A ns.length c) w1 (HNS.out.next HB1.out) (by omega)).mono ?_
  rintro e w2 ⟨he, hb2⟩
  rw [HF.out] at he
  subst he
  have HP2 := Lib.hid ((hb2.block w.heap.size (Array.getElem?_eq_some_iff.1 HP1.out).1).trans HP1.out)
  have HB2 := Lib.hid (bel_call HB1.out hb2)
  clear hb2 p0 p1 p2 p3 p4
  obtain ⟨p0, p1, p2, p3, p4⟩ := cells5 HP2.out
  by_cases he : F = []
  · subst he
    have hem : (str []).toList.isEmpty = true := by rw [toList_bts, bts_str]; rfl
    go_wp2_with fail
    refine (awake_any w2 (HV.out.next HB2.out)).mono ?_
    rintro e w3 ⟨he, hb3⟩
    subst he
    have HB3 := Lib.hid (bel_call HB2.out hb3)
    clear hb3
    go_wp2_with fail
    go_ret
    exact ⟨rfl, HB3.out⟩
  · have hem : (str F).toList.isEmpty = false := by
      rw [toList_bts, bts_str]
      cases F with
      | nil => exact absurd rfl he
      | cons a l => rfl
    have HRD := Lib.hid (show parsePt (bts (str F)) = ((r, ns), 0, 0) by rw [bts_str, ← HF.out]; exact formatPt_read (by rw [HF.out]; exact he))
    have hsz : (str F).size ≤ 9223372036854775807 := by rw [size_str]; exact HFL.out
    clear he
    go_wp2_with fail
    refine (parse_any _ w2 hsz).mono ?_
    rintro e w3 ⟨v3, he, hn3, hb3⟩
    rw [HRD.out] at he hn3
    subst he
    obtain ⟨A3, c3, rfl, _, _⟩ := hn3.form
    have HN3 := Lib.hid hn3
    have HB3 := Lib.hid (bel_call HB2.out hb3)
    have HP3 := Lib.hid ((hb3.block w.heap.size (Array.getElem?_eq_some_iff.1 HP2.out).1).trans HP2.out)
    clear hb3 hn3 p0 p1 p2 p3 p4
    go_upto_region 9 with fail
    obtain ⟨W3, hW3⟩ : ∃ W, w3.alloc (.cells #[.int .i64 r.xa, .int .i64 r.xb, .int .i64 r.ya, .int .i64 r.yb, .slice A3 ns.length c3] 28) = W := ⟨_, rfl⟩
    have hx3 := bel_alloc (ob := .cells #[.int .i64 r.xa, .int .i64 r.xb, .int .i64 r.ya, .int .i64 r.yb, .slice A3 ns.length c3] 28) (Below.refl w3.heap.size w3)
    have hy3 := heap_alloc_last w3 (.cells #[.int .i64 r.xa, .int .i64 r.xb, .int .i64 r.ya, .int .i64 r.yb, .slice A3 ns.length c3] 28)
    rw [hW3] at hx3 hy3 ⊢
    obtain ⟨N3, hN3⟩ : ∃ N, w3.heap.size = N := ⟨_, rfl⟩
    rw [hN3] at hy3 ⊢
    have HQ4 := Lib.hid (show PatAt W3 N3 r (.slice A3 ns.length c3) from hy3)
    have HP4 := Lib.hid (show PatAt W3 w.heap.size r (.slice A ns.length c) from (hx3.block w.heap.size (Array.getElem?_eq_some_iff.1 HP3.out).1).trans HP3.out)
    have HB4 := Lib.hid (bel_call HB3.out hx3)
    have HN4 := Lib.hid (HN3.out.next hx3)
    clear hx3 hy3 hN3 hW3
    obtain ⟨p0, p1, p2, p3, p4⟩ := cells5 HP4.out
    obtain ⟨z0, z1, z2, z3, z4⟩ := cells5 HQ4.out
    go_wp2_with fail
    refine (rSame_any r r ns ns _ _ W3 HN4.out (HNS.out.next HB4.out)).mono ?_
    rintro e w5 ⟨he, hb5⟩
    rw [decide_eq_true ⟨rfl, rfl⟩] at he
    subst he
    have HB5 := Lib.hid (bel_call HB4.out hb5)
    clear hb5 p0 p1 p2 p3 p4 z0 z1 z2 z3 z4
    go_wp2_with fail
    refine (awake_any w5 (HV.out.next HB5.out)).mono ?_
    rintro e w6 ⟨he, hb6⟩
    subst he
    have HB6 := Lib.hid (bel_call HB5.out hb6)
    clear hb6
    go_wp2_with fail
    go_ret
    exact ⟨rfl, HB6.out⟩

set_option maxRecDepth 100000 in
set_option maxHeartbeats 4000000 in
theorem patternParses_walk (s : ByteArray) (w : World) (hs : s.size ≤ 9223372036854775807) (hv : VarsX w) :
    Calls Tryd.prog 10 #[.string s] w (LawX w) := by
  have HV := Lib.hid hv
  clear hv
  go_enter Tryd.func10, Tryd.ntmps10
  by_cases h9 : 9000 < (s.size : Int)
  · go_wp2_with fail
    refine (awake_any w HV.out).mono ?_
    rintro e w1 ⟨he, hb1⟩
    subst he
    have HB1 := Lib.hid hb1
    clear hb1
    go_wp2_with fail
    go_ret
    exact ⟨rfl, HB1.out⟩
  obtain ⟨r, ns, e0, off, hR⟩ : ∃ r ns e off, parsePt (bts s) = ((r, ns), e, off) := ⟨_, _, _, _, rfl⟩
  have HR := Lib.hid hR
  clear hR
  go_wp2_with fail
  refine (parse_any s w hs).mono ?_
  rintro e w1 ⟨v1, he, hn1, hb1⟩
  rw [HR.out] at he hn1
  subst he
  obtain ⟨A1, c1, rfl, _, hml⟩ := hn1.form
  unfold maxLen at hml
  have HN1 := Lib.hid hn1
  have HB1 := Lib.hid hb1
  clear hn1 hb1
  go_upto_region 4 with fail
  obtain ⟨W1, hW1⟩ : ∃ W, w1.alloc (.cells #[.int .i64 r.xa, .int .i64 r.xb, .int .i64 r.ya, .int .i64 r.yb, .slice A1 ns.length c1] 28) = W := ⟨_, rfl⟩
  have hx1 := bel_alloc (ob := .cells #[.int .i64 r.xa, .int .i64 r.xb, .int .i64 r.ya, .int .i64 r.yb, .slice A1 ns.length c1] 28) (Below.refl w1.heap.size w1)
  have hy1 := heap_alloc_last w1 (.cells #[.int .i64 r.xa, .int .i64 r.xb, .int .i64 r.ya, .int .i64 r.yb, .slice A1 ns.length c1] 28)
  rw [hW1] at hx1 hy1 ⊢
  obtain ⟨N1, hN1⟩ : ∃ N, w1.heap.size = N := ⟨_, rfl⟩
  rw [hN1] at hy1 ⊢
  have HP2 := Lib.hid (show PatAt W1 N1 r (.slice A1 ns.length c1) from hy1)
  have HB2 := Lib.hid (bel_call HB1.out hx1)
  have HN2 := Lib.hid (HN1.out.next hx1)
  clear hx1 hy1 hN1 hW1 HN1 HB1
  go_wp2_with fail
  refine (rparse_any s W1 hs).mono ?_
  rintro e w3 ⟨v3, he, hn3, hb3⟩
  rw [HR.out] at he hn3
  subst he
  obtain ⟨A3, c3, rfl, _, hml3⟩ := hn3.form
  have HN3 := Lib.hid hn3
  have HM3 := Lib.hid (HN2.out.next hb3)
  have HP3 := Lib.hid (show PatAt w3 N1 r (.slice A1 ns.length c1) from (hb3.block N1 (Array.getElem?_eq_some_iff.1 HP2.out).1).trans HP2.out)
  have HB3 := Lib.hid (bel_call HB2.out hb3)
  clear hb3 hn3 HN2 HP2 HB2
  go_upto_region 5 with fail
  obtain ⟨W3, hW3⟩ : ∃ W, w3.alloc (.cells #[.int .i64 r.xa, .int .i64 r.xb, .int .i64 r.ya, .int .i64 r.yb, .slice A3 ns.length c3] 28) = W := ⟨_, rfl⟩
  have hx3 := bel_alloc (ob := .cells #[.int .i64 r.xa, .int .i64 r.xb, .int .i64 r.ya, .int .i64 r.yb, .slice A3 ns.length c3] 28) (Below.refl w3.heap.size w3)
  have hy3 := heap_alloc_last w3 (.cells #[.int .i64 r.xa, .int .i64 r.xb, .int .i64 r.ya, .int .i64 r.yb, .slice A3 ns.length c3] 28)
  rw [hW3] at hx3 hy3 ⊢
  obtain ⟨N3, hN3⟩ : ∃ N, w3.heap.size = N := ⟨_, rfl⟩
  rw [hN3] at hy3 ⊢
  have HQ4 := Lib.hid (show PatAt W3 N3 r (.slice A3 ns.length c3) from hy3)
  have HP4 := Lib.hid (show PatAt W3 N1 r (.slice A1 ns.length c1) from (hx3.block N1 (Array.getElem?_eq_some_iff.1 HP3.out).1).trans HP3.out)
  have HB4 := Lib.hid (bel_call HB3.out hx3)
  have HN4 := Lib.hid (HN3.out.next hx3)
  have HM4 := Lib.hid (HM3.out.next hx3)
  clear hx3 hy3 hN3 hW3 HN3 HM3 HP3 HB3
  obtain ⟨p0, p1, p2, p3, p4⟩ := cells5 HP4.out
  obtain ⟨z0, z1, z2, z3, z4⟩ := cells5 HQ4.out
  go_wp2_with fail
  refine (rSame_any r r ns ns _ _ W3 HM4.out HN4.out).mono ?_
  rintro e w5 ⟨he, hb5⟩
  rw [decide_eq_true ⟨rfl, rfl⟩] at he
  subst he
  have HB5 := Lib.hid (bel_call HB4.out hb5)
  have HP5 := Lib.hid (show PatAt w5 N1 r (.slice A1 ns.length c1) from (hb5.block N1 (Array.getElem?_eq_some_iff.1 HP4.out).1).trans HP4.out)
  have HM5 := Lib.hid (HM4.out.next hb5)
  clear hb5 p0 p1 p2 p3 p4 z0 z1 z2 z3 z4 HP4 HQ4 HB4 HM4
  by_cases he0 : e0 = 0
  · subst he0
    obtain ⟨xs, bs', hok⟩ : ∃ xs bs', scanP (bts s) = (xs, 0, 0) ∧ scanP (formatPt r ns) = (bs', 0, 0) ∧ sameP xs bs' = true := by
      obtain ⟨_, t, ho, e, hf, hd, hl, hn, xs, bs', h1, h2, h3⟩ := parsePt_ok HR.out
      subst e
      exact ⟨xs, bs', h1, by rw [formatPt_ok hf ho hd hl hn]; exact h2, h3⟩
    have HOK := Lib.hid hok
    clear hok
    go_wp2_with fail
    refine (scan_any s w5 hs).mono ?_
    rintro e w6 ⟨v6, he, ho6, hb6⟩
    rw [HOK.out.1] at he ho6
    subst he
    have hr6 : RdLx w6 v6 xs := Rd.of_own ho6
    obtain ⟨A6, c6, rfl, _, hml6⟩ := hr6.form
    have HR6 := Lib.hid hr6
    have HB6 := Lib.hid (bel_call HB5.out hb6)
    have HP6 := Lib.hid (show PatAt w6 N1 r (.slice A1 ns.length c1) from (hb6.block N1 (Array.getElem?_eq_some_iff.1 HP5.out).1).trans HP5.out)
    have HM6 := Lib.hid (HM5.out.next hb6)
    clear hb6 ho6 hr6 HP5 HM5 HB5
    obtain ⟨p0, p1, p2, p3, p4⟩ := cells5 HP6.out
    go_wp2_with fail
    refine (format_any r ns _ w6 HM6.out (HV.out.next HB6.out).1 (HV.out.next HB6.out).2).mono ?_
    rintro e w7 ⟨he, hb7⟩
    obtain ⟨F, hF⟩ : ∃ F, formatPt r ns = F := ⟨_, rfl⟩
    have hsz : (str F).size ≤ 9223372036854775807 := by rw [size_str, ← hF]; exact formatPt_len r ns
    have HSF := Lib.hid (show scanP (bts (str F)) = (bs', 0, 0) by rw [bts_str, ← hF]; exact HOK.out.2.1)
    rw [hF] at he
    subst he
    have HR7 := Lib.hid (show RdLx w7 (.slice A6 xs.length c6) xs from HR6.out.next hb7)
    have HB7 := Lib.hid (bel_call HB6.out hb7)
    clear hb7 hF p0 p1 p2 p3 p4 HP6 HM6 HB6 HR6
    go_wp2_with fail
    refine (scan_any _ w7 hsz).mono ?_
    rintro e w8 ⟨v8, he, ho8, hb8⟩
    rw [HSF.out] at he ho8
    subst he
    have hr8 : RdLx w8 v8 bs' := Rd.of_own ho8
    obtain ⟨A8, c8, rfl, _, hml8⟩ := hr8.form
    have HR8 := Lib.hid hr8
    have HS8 := Lib.hid (show RdLx w8 (.slice A6 xs.length c6) xs from HR7.out.next hb8)
    have HB8 := Lib.hid (bel_call HB7.out hb8)
    clear hb8 ho8 hr8 HR7 HB7
    go_wp2_with fail
    refine (same_any _ _ _ _ _ _ xs bs' w8 HS8.out HR8.out).mono ?_
    rintro e w9 ⟨he, hb9⟩
    rw [HOK.out.2.2] at he
    subst he
    have HB9 := Lib.hid (bel_call HB8.out hb9)
    clear hb9
    go_wp2_with fail
    refine (awake_any w9 (HV.out.next HB9.out)).mono ?_
    rintro e w10 ⟨he, hb10⟩
    subst he
    have HB10 := Lib.hid (bel_call HB9.out hb10)
    clear hb10
    go_wp2_with fail
    go_ret
    exact ⟨rfl, HB10.out⟩
  · have hne : (e0 != 0) = true := by rw [bne_iff_ne]; exact he0
    clear he0
    go_wp2_with fail
    refine (awake_any w5 (HV.out.next HB5.out)).mono ?_
    rintro e w6 ⟨he, hb6⟩
    subst he
    have HB6 := Lib.hid (bel_call HB5.out hb6)
    clear hb6
    go_wp2_with fail
    go_ret
    exact ⟨rfl, HB6.out⟩
end Go.Proofs.YtbmcfodhjibooaaDoor
