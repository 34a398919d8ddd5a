/-
  The contract of pattern's Format.
-/
import Derived.Test.YtbmcfodhjibooaaDoorPaK
namespace Go.Proofs.YtbmcfodhjibooaaDoor
open Go.RowKit Saw Go.Sort

theorem arr_ix (a b c d : Int) (k : Nat) (hk : k < 4) (W : World) : (Instr.index 98 (.agg #[.int .i64 a, .int .i64 b, .int .i64 c, .int .i64 d]) (.int .i64 k)).run Tryd.prog W = .ok (.int .i64 ([a, b, c, d].getD k 0)) W := by
  obtain rfl | rfl | rfl | rfl : k = 0 ∨ k = 1 ∨ k = 2 ∨ k = 3 := by omega
  all_goals kernel_rfl
def FmtPost (s : List UInt8) (w : World) (e : Ending) (w' : World) : Prop := e = .returned (.string (str s)) ∧ Below w.heap.size w w'

set_option maxRecDepth 100000 in
set_option maxHeartbeats 4000000 in
theorem format_any (r : Rc) (ns : List Nd) (nv : Value) (w : World) (hns : RdNd w w.heap.size nv ns) (hp : Pow w) (hpg : 0 < w.heap.size) :
    Calls Tryd.prog 27 #[.agg #[.int .i64 r.xa, .int .i64 r.xb, .int .i64 r.ya, .int .i64 r.yb, nv]] w (FmtPost (formatPt r ns) w) := by
  obtain ⟨A, c, rfl, hc, hml⟩ := hns.form
  unfold maxLen at hml
  obtain ⟨q, hq⟩ : ∃ q, formatPt r ns = q := ⟨_, rfl⟩
  rw [hq]
  unfold formatPt at hq
  have HQ := Lib.hid hq
  have HNS := Lib.hid hns
  have HPW := Lib.hid hp
  obtain ⟨W0, hW0⟩ : ∃ W0, w.alloc (.cells #[.int .i64 r.xa, .int .i64 r.xb, .int .i64 r.ya, .int .i64 r.yb, .slice A ns.length c] 28) = W0 := ⟨_, rfl⟩
  have hs0 : W0.heap.size = w.heap.size + 1 := by rw [← hW0, World.size_alloc]
  have hb0 : Below w.heap.size w W0 := by rw [← hW0]; exact (Below.refl _ _).alloc (Nat.le_refl _) _
  have hp0 : PatAt W0 w.heap.size r (.slice A ns.length c) := by rw [← hW0]; exact heap_alloc_last w _
  obtain ⟨p0, p1, p2, p3, p4⟩ := cells5 hp0
  have HP0 := Lib.hid hp0
  have HB0 := Lib.hid hb0
  have HDP := Lib.hid (depth_any r ns (.slice A ns.length c) W0 (hns.next hb0))
  obtain ⟨d, hd⟩ : ∃ d, depthP ns = d := ⟨_, rfl⟩
  rw [hd] at HDP
  obtain ⟨fr, hfr⟩ : ∃ fr, frameP r = fr := ⟨_, rfl⟩
  have HIF := Lib.hid (fun W => hfr ▸ isFrame_rc r W)
  have HWL := Lib.hid (show wellPt r ns = true ↔ fr = true ∧ d ≠ 0 ∧ d ≤ 64 ∧ ∀ n ∈ ns, inLim n = true by rw [wellPt_iff, hfr, hd])
  have HD := Lib.hid hd
  have HFR := Lib.hid hfr
  clear hq hns hp hb0 hp0 hd hfr
  have BAD : Hid (¬ (fr = true ∧ d ≠ 0 ∧ d ≤ 64 ∧ ∀ n ∈ ns, inLim n = true) → q = []) := Lib.hid fun h => by rw [← HQ.out, if_neg (fun h2 => h (HWL.out.1 h2))]
  go_enter Tryd.func27, Tryd.ntmps27
  go_wp2_with fail
  refine HDP.out.mono ?_
  rintro e w1 ⟨he, hb1⟩
  subst he
  have hs1 := hb1.size
  have HP1 := Lib.hid ((hb1.block w.heap.size (by omega)).trans HP0.out)
  have HB1 := Lib.hid (HB0.out.trans (hb1.mono (by omega)))
  clear p0 p1 p2 p3 p4 hb1
  obtain ⟨p0, p1, p2, p3, p4⟩ := cells5 HP1.out
  go_wp2_with fail
  refine (HIF.out _).mono ?_
  rintro e w2 ⟨he, hb2⟩
  subst he
  have hs2 := hb2.size
  have HP2 := Lib.hid ((hb2.block w.heap.size (by omega)).trans HP1.out)
  have HB2 := Lib.hid (HB1.out.trans (hb2.mono (by omega)))
  clear p0 p1 p2 p3 p4 hb2
  obtain ⟨p0, p1, p2, p3, p4⟩ := cells5 HP2.out
  cases fr with
  | false =>
    have hz : q = [] := BAD.out (by rintro ⟨h, _⟩; cases h)
    subst hz
    go_wp2_with fail
    go_ret
    exact ⟨rfl, HB2.out⟩
  | true =>
    by_cases hd0 : d = 0
    · have hz : q = [] := BAD.out (fun h => h.2.1 hd0)
      subst hz
      have hdb : (d == 0) = true := by rw [beq_iff_eq]; exact hd0
      clear hd0
      go_wp2_with fail
      go_ret
      exact ⟨rfl, HB2.out⟩
    · have hdb : (d == 0) = false := by rw [beq_eq_false_iff_ne]; exact hd0
      by_cases hd64 : 64 < d
      · have hz : q = [] := BAD.out (fun h => by omega)
        subst hz
        clear hd0
        go_wp2_with fail
        go_ret
        exact ⟨rfl, HB2.out⟩
      · obtain ⟨t, ht, hte, htd, htl⟩ := depth_tree (ns := ns) (by rw [HD.out]; exact hd0)
        have HT := Lib.hid (And.intro ht hte)
        have HD0 := Lib.hid hd0
        clear ht hte htd hd0
        go_wp2_with fail
        go_loopw [28] (fun i wr => ∃ k : Nat, i = .int .i64 k ∧ k ≤ ns.length ∧ (∀ j n, j < k → ns[j]? = some n → inLim n = true) ∧ Below w.heap.size w wr ∧ PatAt wr w.heap.size r (.slice A ns.length c) ∧ w.heap.size + 1 ≤ wr.heap.size) (fun i _ => ns.length - (intOf i).toNat)
        case atStart => exact ⟨0, rfl, by omega, fun j n h => by omega, HB2.out, HP2.out, by omega⟩
        case round =>
          obtain ⟨k, rfl, hk, hin, hbw, hpa, hsz⟩ := hrel
          have HIN := Lib.hid hin
          have HBW := Lib.hid hbw
          have HPA := Lib.hid hpa
          clear hin hbw hpa p0 p1 p2 p3 p4
          obtain ⟨p0, p1, p2, p3, p4⟩ := cells5 HPA.out
          by_cases hlt : k < ns.length
          · have hn : ns[k]? = some ns[k] := List.getElem?_eq_getElem hlt
            obtain ⟨n, hne⟩ : ∃ n, ns[k] = n := ⟨_, rfl⟩
            rw [hne] at hn
            obtain ⟨bn, on, hA, hbn, d0, d1⟩ := RdNd.at_ (HNS.out.below HBW.out) hn
            subst hA
            have HN := Lib.hid hn
            obtain ⟨lo, hlo⟩ : ∃ lo, loP n.kind = lo := ⟨_, rfl⟩
            obtain ⟨hi, hhi⟩ : ∃ hi, hiP n.kind = hi := ⟨_, rfl⟩
            have HLM := Lib.hid (show inLim n = true ↔ lo ≤ n.pos ∧ n.pos ≤ hi by rw [inLim, Bool.and_eq_true, decide_eq_true_eq, decide_eq_true_eq, hlo, hhi])
            have HLH := Lib.hid (And.intro hlo hhi)
            clear hn hne hlo hhi
            go_wp2_with fail
            refine (limits_any n.kind _).mono ?_
            rintro e w3 ⟨he, rfl⟩
            rw [HLH.out.1, HLH.out.2] at he
            subst he
            by_cases z1 : n.pos < lo
            · have hz : q = [] := BAD.out (fun h => by
                have := HLM.out.1 (h.2.2.2 n (List.mem_of_getElem? HN.out))
                omega)
              subst hz
              go_wp2_with fail
              go_ret
              exact ⟨rfl, HBW.out.alloc (by omega) _⟩
            · by_cases z2 : hi < n.pos
              · have hz : q = [] := BAD.out (fun h => by
                  have := HLM.out.1 (h.2.2.2 n (List.mem_of_getElem? HN.out))
                  omega)
                subst hz
                go_wp2_with fail
                go_ret
                exact ⟨rfl, HBW.out.alloc (by omega) _⟩
              · go_wp2_with fail
                refine ⟨⟨k + 1, by simp, by omega, fun j m hj hm => ?_, HBW.out.alloc (by omega) _, hpA HPA.out _, by simp only [World.size_alloc]; omega⟩, by simp [intOf]; omega⟩
                by_cases hjk : j = k
                · subst hjk
                  rw [HN.out] at hm
                  injection hm with hm
                  subst hm
                  exact HLM.out.2 (by omega)
                · exact HIN.out j m (by omega) hm
          · have hall : ∀ n ∈ ns, inLim n = true := fun n hn => by
              obtain ⟨j, hj, hjn⟩ := List.mem_iff_getElem.1 hn
              exact HIN.out j n (by omega) (by rw [List.getElem?_eq_getElem hj, hjn])
            obtain ⟨hto, hte⟩ := HT.out
            have hqt : q = textPt r t := by
              rw [← HQ.out, if_pos (HWL.out.2 ⟨by trivial, HD0.out, by omega, hall⟩), hte, treeOf_nodes hto]
            have HALL := Lib.hid hall
            have hfb := frameP_iff.1 HFR.out
            have hlenq : q.length ≤ 4000 := by
              rw [hqt]
              exact textPt_len HFR.out (hte ▸ htl) (by rw [← hte]; exact hall)
            have HQT := Lib.hid hqt
            clear hall hto hte hqt BAD HQ HIN
            have hNr : w.heap.size < wr.heap.size := by omega
            go_wp2_with fail
            have hown0 : OwnsStr (wr.alloc (.cells #[.string (str frameW)] 9)) (w.heap.size + 1) (.slice (some ⟨wr.heap.size, 0, none⟩) 1 1) [frameW] := ownsRow_new (w := wr) (base := w.heap.size + 1) (len := 1) (size := 1) (e := 9) (cs := [.string (str frameW)]) (by omega) rfl (by decide)
            have HO0 := Lib.hid hown0
            have HBA := Lib.hid (HBW.out.alloc (by omega) (.cells #[.string (str frameW)] 9))
            have HPAA := Lib.hid (hpA HPA.out (.cells #[.string (str frameW)] 9))
            have X := arr_ix r.xa r.xb r.ya r.yb
            have HX := Lib.hid X
            clear hown0 p0 p1 p2 p3 p4 X
            go_loopw [8, 67] (fun v i wr => ∃ (k : Nat) (l : List (List UInt8)) (v0 : Value), v0 = v ∧ i = .int .i64 k ∧ k ≤ 4 ∧ l = (headWords r).take (k + 1) ∧ OwnsStr wr (w.heap.size + 1) v l ∧ Below w.heap.size w wr ∧ PatAt wr w.heap.size r (.slice A ns.length c) ∧ w.heap.size + 1 ≤ wr.heap.size) (fun _ i _ => 4 - (intOf i).toNat)
            case atStart => exact ⟨0, _, _, rfl, rfl, by omega, rfl, HO0.out, HBA.out, HPAA.out, by simp only [World.size_alloc]; omega⟩
            case round =>
              obtain ⟨k, l, v, hv0, rfl, hk, hl, how, hbw, hpa, hsz⟩ := hrel
              subst hv0
              have HOW := Lib.hid how
              have HBV := Lib.hid hbw
              have HPV := Lib.hid hpa
              have HL := Lib.hid hl
              have hll : l.length ≤ 5 := by rw [hl, List.length_take]; omega
              have HLL := Lib.hid (show l.length ≤ 100000 by omega)
              clear how hbw hpa hl hll
              by_cases hlt : k < 4
              · have hix := HX.out k hlt
                obtain ⟨n, hn⟩ : ∃ n, [r.xa, r.xb, r.ya, r.yb].getD k 0 = n := ⟨_, rfl⟩
                rw [hn] at hix
                have hnb : -600 ≤ n ∧ n ≤ 600 := by
                  obtain rfl | rfl | rfl | rfl : k = 0 ∨ k = 1 ∨ k = 2 ∨ k = 3 := by omega
                  all_goals
                    simp only [List.getD_cons_zero, List.getD_cons_succ] at hn
                    omega
                have HTK := Lib.hid (show (headWords r).take (k + 1 + 1) = (headWords r).take (k + 1) ++ [Lib.itoa n] by
                  obtain rfl | rfl | rfl | rfl : k = 0 ∨ k = 1 ∨ k = 2 ∨ k = 3 := by omega
                  all_goals
                    simp only [List.getD_cons_zero, List.getD_cons_succ] at hn
                    subst hn
                    rfl)
                obtain ⟨d1, hd1⟩ : ∃ d1, str (Lib.itoa n) = d1 := ⟨_, rfl⟩
                have HD1 := Lib.hid hd1
                obtain ⟨l2, hl2⟩ : ∃ l2, l ++ [Lib.itoa n] = l2 := ⟨_, rfl⟩
                have HL2 := Lib.hid hl2
                clear hd1 hl2 hn
                have go : ∃ x, (Instr.index 98 (.agg #[.int .i64 r.xa, .int .i64 r.xb, .int .i64 r.ya, .int .i64 r.yb]) (.int .i64 k)) = x := ⟨_, rfl⟩
                go_wp2_with (first
                  | (go_at_call 56; refine (itoa_any n _ (by omega) (by omega) (HPW.out.below HBV.out hpg)).mono ?_; rintro e w5 ⟨he, hb5⟩; rw [HD1.out] at he; subst he; have HO5 := Lib.hid (str_kept HOW.out hb5); have HB5 := Lib.hid (HBV.out.trans (hb5.mono (by omega))); have HP5 := Lib.hid ((hb5.block w.heap.size (by omega)).trans HPV.out); have hs5 := hb5.size; clear hb5)
                  | (at_builtin; refine append_str w5 (by rfl) (.tmp 70) (.tmp 73) (by rfl) (w.heap.size + 1) _ l (by rfl) HO5.out HLL.out (by omega) (Lib.itoa n) _ (by rfl) HD1.out.symm ?_; intro v6 w6 hown6 hg6; rw [HL2.out] at hown6; have HO6 := Lib.hid hown6; have HB6 := Lib.hid (HB5.out.trans (str_below HO5.out (by omega) (by omega) hg6)); have HP6 := Lib.hid ((hg6.block w.heap.size (by omega) (fun e => by have := (own_at HO5.out e.symm).1; omega)).trans HP5.out); have hs6 := hg6.size; clear hown6 hg6))
                refine ⟨⟨k + 1, l2, _, rfl, by simp, by omega, ?_, HO6.out, HB6.out, HP6.out, by omega⟩, by simp [intOf]; omega⟩
                rw [HTK.out, ← HL.out, HL2.out]
              · have hk4 : k = 4 := by omega
                have hlw : l = headWords r := by rw [HL.out, hk4]; rfl
                obtain ⟨hto, hte⟩ := HT.out
                have hrdw : RdNd wr w.heap.size (.slice A ns.length c) (t.nodes ++ []) := by
                  rw [List.append_nil, ← hte]
                  exact HNS.out.below HBV.out
                have how := HOW.out
                rw [hlw] at how
                have hwl := words_len t (by rw [← hte]; exact HALL.out)
                have hhl : (headWords r).length = 5 := rfl
                have HWR := Lib.hid (write_any t [] (headWords r) v (.slice A ns.length c) (w.heap.size + 1) w.heap.size wr hto (by rw [← hte]; exact HALL.out) how hrdw (by omega) (by omega) (by rw [hhl, ← hte]; omega) (HPW.out.below HBV.out hpg) (by omega))
                obtain ⟨L, hL⟩ : ∃ L, headWords r ++ t.words = L := ⟨_, rfl⟩
                rw [hL] at HWR
                have hLl : L.length ≤ 100000 := by
                  rw [← hL, List.length_append, hhl]
                  have := hwl.1
                  rw [← hte] at this
                  omega
                obtain ⟨J, hJ⟩ : ∃ J, Lib.join L [32] = J := ⟨_, rfl⟩
                have hqJ : q = J ++ [10] := by rw [HQT.out, textPt, hL, hJ]
                have hJl : J.length ≤ 4000 := by
                  have := congrArg List.length hqJ
                  rw [List.length_append] at this
                  omega
                have HLl := Lib.hid hLl
                have HQJ := Lib.hid hqJ
                obtain ⟨d2, hd2⟩ : ∃ d2, str J = d2 := ⟨_, rfl⟩
                have hcat := run_cat d2 ⟨#[10]⟩ (by rw [← hd2, size_str]; show J.length + 1 ≤ _; omega)
                have hd2s : d2.size ≤ 4000 := by rw [← hd2, size_str]; omega
                have HD2 := Lib.hid hd2
                have HJN : Hid (∀ u W, OwnsStr W (w.heap.size + 1) u L → Calls Tryd.prog 58 #[u, .string ⟨#[32]⟩] W fun e w' => e = .returned (.string d2) ∧ Below W.heap.size W w') := Lib.hid fun u W hu => by
                  have h := join_any W (w.heap.size + 1) u L hu hLl (by rw [hJ]; omega)
                  rw [hJ, hd2] at h
                  exact h
                have HJL := Lib.hid hJl
                obtain ⟨p0, p1, p2, p3, p4⟩ := cells5 HPV.out
                clear hrdw how hlw hwl hhl hL hLl hJ hqJ hJl hd2 hto hte hlenq
                go_wp2_with fail
                refine HWR.out.mono ?_
                rintro e w7 ⟨v7, lv7, he, ho7, hr7, hb7, hs7⟩
                subst he
                have HO7 := Lib.hid ho7
                have HB7 := Lib.hid (HBV.out.trans (hb7.mono (by omega)))
                clear ho7 hr7 hb7
                go_wp2_with fail
                refine (HJN.out v7 w7 HO7.out).mono ?_
                rintro e w8 ⟨he, hb8⟩
                subst he
                have HB8 := Lib.hid (HB7.out.trans (hb8.mono (by omega)))
                clear hb8
                go_wp2_with fail
                go_ret
                refine ⟨?_, HB8.out⟩
                rw [HQJ.out, ← HD2.out, ← str_append]
                rfl

end Go.Proofs.YtbmcfodhjibooaaDoor
